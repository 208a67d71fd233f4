/- Lemmas for the row FnExactSixthsInOrbit: the program's functions told as plain functions, and plain mathematics. No conditions. -/
import Derived.MapKept
import Derived.Test.YtcggfjpnfodbaaaQFnExactSixthsInOrbit1
section
namespace Go.Proofs.Ytcggfjpnfodbaaa.A
open Go.RowKit Go.Proofs.YtcggfjpnfodbaaaW.PrintWords Go.Proofs.YtcggfjpnfodbaaaW.PrintLast Go.Proofs.YtcggfjpnfodbaaaW.PrintMore
attribute [local go_sem] max2_int min2_int max_two min_two max_three min_three max_four min_four
set_option linter.unusedVariables false
set_option linter.unusedSimpArgs false
def Z41.f (k : Nat) (l0_0 : List Int) (l0_1 : List Int) (a1 : Int) : Option (List Int × List Int) := if a1 = 84 then ((Z51.f k l0_0 l0_1).bind fun bt845 => (some (bt845.1, bt845.2))) else (if a1 = 116 then ((Z28.f k l0_0 l0_1).bind fun bt851 => (some (bt851.1, bt851.2))) else (if a1 = 83 then ((Z60.f k l0_0 l0_1).bind fun bt857 => (some (bt857.1, bt857.2))) else ((Z42.f k l0_0 l0_1).bind fun bt863 => (some (bt863.1, bt863.2)))))
theorem Z41.mono : ∀ a0 a1 a2 k, LeO (Z41.f k a0 a1 a2) (Z41.f (k + 1) a0 a1 a2) := by
 intro a0 a1 a2 k
 unfold Z41.f
 repeat' first|exact Z51.mono _ _ _|exact Z60.mono _ _ _|exact Z28.mono _ _ _|exact Z42.mono _ _ _|exact lo_|refine LeO.ite ?_ ?_|refine LeO.bind ?_ (fun _ => ?_)
set_option maxHeartbeats 8000000 in
set_option maxRecDepth 100000 in
theorem Z41.calls (k : Nat) (A0_0 : Option Addr) (c0_0 : Nat) (l0_0 : List Int) (A0_1 : Option Addr) (c0_1 : Nat) (l0_1 : List Int) (a1 : Int) (r1 : List Int) (r2 : List Int) (w : World) (hr0_0 : Kd.C (Kd.int .i64) w A0_0 l0_0.length l0_0) (hc0_0 : l0_0.length ≤ c0_0) (hr0_1 : Kd.C (Kd.int .i64) w A0_1 l0_1.length l0_1) (hc0_1 : l0_1.length ≤ c0_1) (h : Z41.f k l0_0 l0_1 a1 = some (r1, r2)) :
  Calls Try.prog 87 #[.agg #[.slice A0_0 l0_0.length c0_0, .slice A0_1 l0_1.length c0_1], .int .u8 a1] w fun e w' => ∃ v0_ v1_ : Value, e = .returned (.agg #[v0_, v1_]) ∧ Kd.R (Kd.int .i64) 3 w' w.heap.size (fun k_ => some k_ ≠ (v1_ : Value).ownBlock) v0_ r1 ∧ Kd.R (Kd.int .i64) 3 w' w.heap.size (fun k_ => some k_ ≠ (v0_ : Value).ownBlock) v1_ r2 ∧ Below w.heap.size w w' := by
 have hu25 := Try.underlying25
 have HR0_0 := A_ hr0_0
 have HC0_0 := A_ hc0_0
 clear hr0_0 hc0_0
 have HR0_1 := A_ hr0_1
 have HC0_1 := A_ hc0_1
 clear hr0_1 hc0_1
 have HB := A_ (Below.refl w.heap.size w)
 have H := h
 unfold Z41.f at H
 clear h
 by_cases c3 : a1 = 84
 ·rw [if_pos c3] at H
  have c3b0 : (a1 == 84) = true := beq_iff_eq.mpr c3
  have c3b1 : (a1 != 84) = false := bne_eq_false_iff_eq.mpr c3
  clear c3
  obtain ⟨⟨t845, t848⟩, A4, H⟩ := bi_ H
  try dsimp only at H
  simp only [Option.some.injEq, Prod.mk.injEq] at H
  obtain ⟨rfl, rfl⟩ := H
  go_enter Try.func87, Try.ntmps87
  go_wp2_with (first | ((with_reducible refine gB_ (N := 2) rfl ?_); refine bx_ 2 #[.slice A0_0 l0_0.length c0_0, .slice A0_1 l0_1.length c0_1] 25 ?_; intro gb843 hg w5 hbox hb; have BK843 := A_ hbox; have GW843 := gw_ w hg; have GE843 := GW843; replace HB := b1_ hb; clear hb hbox hg) | ((with_reducible refine gB_ (N := 4) rfl ?_); refine bx_ 4 #[.slice none 0 0, .slice none 0 0] 25 ?_; intro gb844 hg w6 hbox hb; have BK844 := A_ hbox; have GW844 := gw_ w hg; have GE844 := GW844; replace HB := b1_ hb; have NB843_844 := gN_ BK843 hg; have NB844_843 := gP_ BK843 hg; replace BK843 := bb_ BK843 hb; clear hb hbox hg; have hnb7 := NB843_844.out; have hnc7 := NB844_843.out; obtain ⟨hcz8_0, hcz8_1, hfz8_0, hfz8_1⟩ := c2_ BK843) | ((with_reducible refine gA_ (f := 124) rfl ?_); refine gL_ (some 9) Try.func124 #[.agg #[.slice A0_0 l0_0.length c0_0, .slice A0_1 l0_1.length c0_1]] rfl qa_ ?_; (with_reducible refine (Z51.calls k _ _ l0_0 _ _ l0_1 t845 t848 _ (cb_ HR0_0) HC0_0.out (cb_ HR0_1) HC0_1.out A4.out).mono ?_); rintro e w9 ⟨v846, v849, rfl, ho0, ho1, hb⟩; refine ⟨_, rfl, ?_⟩; have HO847 := rl_ w ho0; have HO850 := rl_ w ho1; replace BK843 := bb_ BK843 hb; replace BK844 := bb_ BK844 hb; replace HB := b1_ hb; clear hb ho0 ho1; obtain ⟨Ao10, co10, eo10⟩ := Kd.R_slice HO847.out; subst eo10; obtain ⟨hcz11_0, hcz11_1, hfz11_0, hfz11_1⟩ := c2_ BK844; obtain ⟨Ao12, co12, eo12⟩ := Kd.R_slice HO850.out; subst eo12))
  refine bodyPost_ret (results_cell_row rfl _ _ gb844 25 #[.slice Ao10 t845.length co10, .slice Ao12 t848.length co12] (0, 0) _ rfl qp_ Try.underlying25 rfl (by kernel_rfl)) rfl ?_
  exact ⟨_, _, qb_, (rw_ (fa_ HO847 BK844)), (rw_ (fa_ HO850 BK844)), hB_⟩
 ·rw [if_neg c3] at H
  have c3b0 : (a1 == 84) = false := beq_eq_false_iff_ne.mpr c3
  have c3b1 : (a1 != 84) = true := bne_iff_ne.mpr c3
  by_cases c13 : a1 = 116
  ·rw [if_pos c13] at H
   have c13b0 : (a1 == 116) = true := beq_iff_eq.mpr c13
   have c13b1 : (a1 != 116) = false := bne_eq_false_iff_eq.mpr c13
   clear c13
   obtain ⟨⟨t851, t854⟩, A14, H⟩ := bi_ H
   try dsimp only at H
   simp only [Option.some.injEq, Prod.mk.injEq] at H
   obtain ⟨rfl, rfl⟩ := H
   go_enter Try.func87, Try.ntmps87
   go_wp2_with (first | ((with_reducible refine gB_ (N := 2) rfl ?_); refine bx_ 2 #[.slice A0_0 l0_0.length c0_0, .slice A0_1 l0_1.length c0_1] 25 ?_; intro gb843 hg w15 hbox hb; have BK843 := A_ hbox; have GW843 := gw_ w hg; have GE843 := GW843; replace HB := b1_ hb; clear hb hbox hg) | ((with_reducible refine gB_ (N := 4) rfl ?_); refine bx_ 4 #[.slice none 0 0, .slice none 0 0] 25 ?_; intro gb844 hg w16 hbox hb; have BK844 := A_ hbox; have GW844 := gw_ w hg; have GE844 := GW844; replace HB := b1_ hb; have NB843_844 := gN_ BK843 hg; have NB844_843 := gP_ BK843 hg; replace BK843 := bb_ BK843 hb; clear hb hbox hg; have hnb17 := NB843_844.out; have hnc17 := NB844_843.out; obtain ⟨hcz18_0, hcz18_1, hfz18_0, hfz18_1⟩ := c2_ BK843) | ((with_reducible refine gA_ (f := 125) rfl ?_); refine gL_ (some 13) Try.func125 #[.agg #[.slice A0_0 l0_0.length c0_0, .slice A0_1 l0_1.length c0_1]] rfl qa_ ?_; (with_reducible refine (Z28.calls k _ _ l0_0 _ _ l0_1 t851 t854 _ (cb_ HR0_0) HC0_0.out (cb_ HR0_1) HC0_1.out A14.out).mono ?_); rintro e w19 ⟨v852, v855, rfl, ho0, ho1, hb⟩; refine ⟨_, rfl, ?_⟩; have HO853 := rl_ w ho0; have HO856 := rl_ w ho1; replace BK843 := bb_ BK843 hb; replace BK844 := bb_ BK844 hb; replace HB := b1_ hb; clear hb ho0 ho1; obtain ⟨Ao20, co20, eo20⟩ := Kd.R_slice HO853.out; subst eo20; obtain ⟨hcz21_0, hcz21_1, hfz21_0, hfz21_1⟩ := c2_ BK844; obtain ⟨Ao22, co22, eo22⟩ := Kd.R_slice HO856.out; subst eo22))
   refine bodyPost_ret (results_cell_row rfl _ _ gb844 25 #[.slice Ao20 t851.length co20, .slice Ao22 t854.length co22] (0, 0) _ rfl qp_ Try.underlying25 rfl (by kernel_rfl)) rfl ?_
   exact ⟨_, _, qb_, (rw_ (fa_ HO853 BK844)), (rw_ (fa_ HO856 BK844)), hB_⟩
  ·rw [if_neg c13] at H
   have c13b0 : (a1 == 116) = false := beq_eq_false_iff_ne.mpr c13
   have c13b1 : (a1 != 116) = true := bne_iff_ne.mpr c13
   by_cases c23 : a1 = 83
   ·rw [if_pos c23] at H
    have c23b0 : (a1 == 83) = true := beq_iff_eq.mpr c23
    have c23b1 : (a1 != 83) = false := bne_eq_false_iff_eq.mpr c23
    clear c23
    obtain ⟨⟨t857, t860⟩, A24, H⟩ := bi_ H
    try dsimp only at H
    simp only [Option.some.injEq, Prod.mk.injEq] at H
    obtain ⟨rfl, rfl⟩ := H
    go_enter Try.func87, Try.ntmps87
    go_wp2_with (first | ((with_reducible refine gB_ (N := 2) rfl ?_); refine bx_ 2 #[.slice A0_0 l0_0.length c0_0, .slice A0_1 l0_1.length c0_1] 25 ?_; intro gb843 hg w25 hbox hb; have BK843 := A_ hbox; have GW843 := gw_ w hg; have GE843 := GW843; replace HB := b1_ hb; clear hb hbox hg) | ((with_reducible refine gB_ (N := 4) rfl ?_); refine bx_ 4 #[.slice none 0 0, .slice none 0 0] 25 ?_; intro gb844 hg w26 hbox hb; have BK844 := A_ hbox; have GW844 := gw_ w hg; have GE844 := GW844; replace HB := b1_ hb; have NB843_844 := gN_ BK843 hg; have NB844_843 := gP_ BK843 hg; replace BK843 := bb_ BK843 hb; clear hb hbox hg; have hnb27 := NB843_844.out; have hnc27 := NB844_843.out; obtain ⟨hcz28_0, hcz28_1, hfz28_0, hfz28_1⟩ := c2_ BK843) | ((with_reducible refine gA_ (f := 126) rfl ?_); refine gL_ (some 17) Try.func126 #[.agg #[.slice A0_0 l0_0.length c0_0, .slice A0_1 l0_1.length c0_1]] rfl qa_ ?_; (with_reducible refine (Z60.calls k _ _ l0_0 _ _ l0_1 t857 t860 _ (cb_ HR0_0) HC0_0.out (cb_ HR0_1) HC0_1.out A24.out).mono ?_); rintro e w29 ⟨v858, v861, rfl, ho0, ho1, hb⟩; refine ⟨_, rfl, ?_⟩; have HO859 := rl_ w ho0; have HO862 := rl_ w ho1; replace BK843 := bb_ BK843 hb; replace BK844 := bb_ BK844 hb; replace HB := b1_ hb; clear hb ho0 ho1; obtain ⟨Ao30, co30, eo30⟩ := Kd.R_slice HO859.out; subst eo30; obtain ⟨hcz31_0, hcz31_1, hfz31_0, hfz31_1⟩ := c2_ BK844; obtain ⟨Ao32, co32, eo32⟩ := Kd.R_slice HO862.out; subst eo32))
    refine bodyPost_ret (results_cell_row rfl _ _ gb844 25 #[.slice Ao30 t857.length co30, .slice Ao32 t860.length co32] (0, 0) _ rfl qp_ Try.underlying25 rfl (by kernel_rfl)) rfl ?_
    exact ⟨_, _, qb_, (rw_ (fa_ HO859 BK844)), (rw_ (fa_ HO862 BK844)), hB_⟩
   ·rw [if_neg c23] at H
    have c23b0 : (a1 == 83) = false := beq_eq_false_iff_ne.mpr c23
    have c23b1 : (a1 != 83) = true := bne_iff_ne.mpr c23
    obtain ⟨⟨t863, t866⟩, A33, H⟩ := bi_ H
    try dsimp only at H
    simp only [Option.some.injEq, Prod.mk.injEq] at H
    obtain ⟨rfl, rfl⟩ := H
    go_enter Try.func87, Try.ntmps87
    go_wp2_with (first | ((with_reducible refine gB_ (N := 2) rfl ?_); refine bx_ 2 #[.slice A0_0 l0_0.length c0_0, .slice A0_1 l0_1.length c0_1] 25 ?_; intro gb843 hg w34 hbox hb; have BK843 := A_ hbox; have GW843 := gw_ w hg; have GE843 := GW843; replace HB := b1_ hb; clear hb hbox hg) | ((with_reducible refine gB_ (N := 4) rfl ?_); refine bx_ 4 #[.slice none 0 0, .slice none 0 0] 25 ?_; intro gb844 hg w35 hbox hb; have BK844 := A_ hbox; have GW844 := gw_ w hg; have GE844 := GW844; replace HB := b1_ hb; have NB843_844 := gN_ BK843 hg; have NB844_843 := gP_ BK843 hg; replace BK843 := bb_ BK843 hb; clear hb hbox hg; have hnb36 := NB843_844.out; have hnc36 := NB844_843.out; obtain ⟨hcz37_0, hcz37_1, hfz37_0, hfz37_1⟩ := c2_ BK843) | ((with_reducible refine gA_ (f := 127) rfl ?_); refine gL_ (some 19) Try.func127 #[.agg #[.slice A0_0 l0_0.length c0_0, .slice A0_1 l0_1.length c0_1]] rfl qa_ ?_; (with_reducible refine (Z42.calls k _ _ l0_0 _ _ l0_1 t863 t866 _ (cb_ HR0_0) HC0_0.out (cb_ HR0_1) HC0_1.out A33.out).mono ?_); rintro e w38 ⟨v864, v867, rfl, ho0, ho1, hb⟩; refine ⟨_, rfl, ?_⟩; have HO865 := rl_ w ho0; have HO868 := rl_ w ho1; replace BK843 := bb_ BK843 hb; replace BK844 := bb_ BK844 hb; replace HB := b1_ hb; clear hb ho0 ho1; obtain ⟨Ao39, co39, eo39⟩ := Kd.R_slice HO865.out; subst eo39; obtain ⟨hcz40_0, hcz40_1, hfz40_0, hfz40_1⟩ := c2_ BK844; obtain ⟨Ao41, co41, eo41⟩ := Kd.R_slice HO868.out; subst eo41))
    refine bodyPost_ret (results_cell_row rfl _ _ gb844 25 #[.slice Ao39 t863.length co39, .slice Ao41 t866.length co41] (0, 0) _ rfl qp_ Try.underlying25 rfl (by kernel_rfl)) rfl ?_
    exact ⟨_, _, qb_, (rw_ (fa_ HO865 BK844)), (rw_ (fa_ HO868 BK844)), hB_⟩
end Go.Proofs.Ytcggfjpnfodbaaa.A
end
section
namespace Go.Proofs.Ytcggfjpnfodbaaa.A
open Go.RowKit Go.Proofs.YtcggfjpnfodbaaaW.PrintWords Go.Proofs.YtcggfjpnfodbaaaW.PrintLast Go.Proofs.YtcggfjpnfodbaaaW.PrintMore
attribute [local go_sem] max2_int min2_int max_two min_two max_three min_three max_four min_four
set_option linter.unusedVariables false
set_option linter.unusedSimpArgs false
mutual
def Z52.l0 : Nat → List (S25) → List ByteArray → Int → Option ((List (S25)) × List ByteArray × Bool)
 | 0, _, _, _ => none
 | k + 1, x5, x6, x7 => if x7 < (x5.length : Int) then ((some (([84, 83] : List Int) : List Int)).bind fun y882 => (Z52.l1 k x5 x6 x7 y882 (y882.length : Int) 0)) else (some (x5, x6, true))
def Z52.l1 : Nat → List (S25) → List ByteArray → Int → List Int → Int → Int → Option ((List (S25)) × List ByteArray × Bool)
 | 0, _, _, _, _, _, _ => none
 | k + 1, x5, x6, x7, x21, x22, x23 => if x23 < x22 then (if 0 ≤ x23 then (if x23 < (x21.length : Int) then (if 0 ≤ x7 then (if x7 < (x5.length : Int) then ((Z41.f k ((rd_T25 x5 x7).f0) ((rd_T25 x5 x7).f1) (rd x21 x23)).bind fun bt887 => ((Z49.f k bt887.1 bt887.2).bind fun bt893 => ((Z61.f k x5 bt893.1 bt893.2).bind fun t900 => (if t900 < 0 then (if x5.length < 2932031007402 then (if x7 < (x6.length : Int) then ((some (([rd x21 x23] : List Int) : List Int)).bind fun y905 => (if (rdOf ByteArray.empty x6 x7).size + (strOfNums y905).size ≤ 9223372036854775807 then (if x6.length < 8796093022208 then (Z52.l1 k (x5 ++ [(⟨bt893.1, bt893.2⟩ : S25)]) (x6 ++ [(rdOf ByteArray.empty x6 x7) ++ (strOfNums y905)]) x7 x21 x22 (wrap64 (x23 + 1))) else (none)) else (none))) else (none)) else (none)) else (Z52.l1 k x5 x6 x7 x21 x22 (wrap64 (x23 + 1))))))) else (none)) else (none)) else (none)) else (none)) else (if (x5.length : Int) > 120 then (some (([] : List (S25)), ([] : List ByteArray), false)) else (Z52.l0 k x5 x6 (wrap64 (x7 + 1))))
end
def Z52.f (k : Nat) (l0_0 : List Int) (l0_1 : List Int) : Option ((List (S25)) × List ByteArray × Bool) := (Z49.f k l0_0 l0_1).bind fun bt870 => (Z52.l0 k (([(⟨bt870.1, bt870.2⟩ : S25)] : List (S25))) (([(⟨#[]⟩ : ByteArray)] : List ByteArray)) 0)
theorem Z52.mono_l : ∀ k, (∀ y0 y1 y2, LeO (Z52.l0 k y0 y1 y2) (Z52.l0 (k + 1) y0 y1 y2)) ∧ (∀ y0 y1 y2 y3 y4 y5, LeO (Z52.l1 k y0 y1 y2 y3 y4 y5) (Z52.l1 (k + 1) y0 y1 y2 y3 y4 y5))
 | 0 => ⟨fun _ _ _ r h => by simp [Z52.l0] at h, fun _ _ _ _ _ _ r h => by simp [Z52.l1] at h⟩
 | k + 1 => by
  obtain ⟨ih0, ih1⟩ := Z52.mono_l k
  refine ⟨?_, ?_⟩
  ·intro y0 y1 y2
   unfold Z52.l0
   repeat' first|exact ih0 _ _ _|exact ih1 _ _ _ _ _ _|exact Z49.mono _ _ _|exact Z41.mono _ _ _ _|exact Z61.mono _ _ _ _|exact lo_|refine LeO.ite ?_ ?_|refine LeO.bind ?_ (fun _ => ?_)
  ·intro y0 y1 y2 y3 y4 y5
   unfold Z52.l1
   repeat' first|exact ih0 _ _ _|exact ih1 _ _ _ _ _ _|exact Z49.mono _ _ _|exact Z41.mono _ _ _ _|exact Z61.mono _ _ _ _|exact lo_|refine LeO.ite ?_ ?_|refine LeO.bind ?_ (fun _ => ?_)
theorem Z52.mono : ∀ a0 a1 k, LeO (Z52.f k a0 a1) (Z52.f (k + 1) a0 a1) := by
 intro a0 a1 k
 obtain ⟨ih0, ih1⟩ := Z52.mono_l k
 unfold Z52.f
 repeat' first|exact ih0 _ _ _|exact ih1 _ _ _ _ _ _|exact Z49.mono _ _ _|exact Z41.mono _ _ _ _|exact Z61.mono _ _ _ _|exact lo_|refine LeO.ite ?_ ?_|refine LeO.bind ?_ (fun _ => ?_)
def Z52.T12 : Bool × List (List Nat × List Nat) := (true, [([], []), ([], []), ([], []), ([1, 2], [1, 2]), ([3], [3]), ([], []), ([5], [5]), ([6], [6]), ([4, 7], [4, 7]), ([8], [8]), ([0, 9], [0, 9]), ([10, 10, 0, 1, 2, 3, 4, 5, 6, 7, 8, 9, 10], [0, 1, 10])])
def Z52.B12 : List Nat := [0, 0, 0, 6, 14, 0, 32, 96, 254, 510, 1023, 2047]
theorem Z52.tab12 : rtab .any (opsOf Try.f84 12) = Z52.T12 := by kernel_rfl
theorem Z52.bits12 : waitsOk Z52.T12.2 Z52.B12 = true := by kernel_rfl
set_option maxHeartbeats 8000000 in
set_option maxRecDepth 100000 in
theorem Z52.calls (k : Nat) (A0_0 : Option Addr) (c0_0 : Nat) (l0_0 : List Int) (A0_1 : Option Addr) (c0_1 : Nat) (l0_1 : List Int) (r1 : List (S25)) (r2 : List ByteArray) (r3 : Bool) (w : World) (hr0_0 : Kd.C (Kd.int .i64) w A0_0 l0_0.length l0_0) (hc0_0 : l0_0.length ≤ c0_0) (hr0_1 : Kd.C (Kd.int .i64) w A0_1 l0_1.length l0_1) (hc0_1 : l0_1.length ≤ c0_1) (h : Z52.f k l0_0 l0_1 = some (r1, r2, r3)) :
  Calls Try.prog 84 #[.agg #[.slice A0_0 l0_0.length c0_0, .slice A0_1 l0_1.length c0_1]] w fun e w' => ∃ v0_ v1_ : Value, e = .returned (.tuple #[v0_, v1_, .bool r3]) ∧ Kd.N k25 25 w' w.heap.size (fun k_ => (w.heap.size ≤ k_) ∧ some k_ ≠ (v1_ : Value).ownBlock) v0_ r1 ∧ Kd.R Kd.string 9 w' w.heap.size (fun k_ => (w.heap.size ≤ k_)) v1_ r2 ∧ Below w.heap.size w w' := by
 have hu25 := Try.underlying25
 have HR0_0 := A_ hr0_0
 have HC0_0 := A_ hc0_0
 clear hr0_0 hc0_0
 have HR0_1 := A_ hr0_1
 have HC0_1 := A_ hc0_1
 clear hr0_1 hc0_1
 have HB := A_ (Below.refl w.heap.size w)
 have H := h
 unfold Z52.f at H
 clear h
 obtain ⟨⟨t870, t873⟩, A2, H⟩ := bi_ H
 try dsimp only at H
 obtain ⟨y876, hy876⟩ : ∃ y_ : List (S25), y_ = (([(⟨t870, t873⟩ : S25)] : List (S25))) := ⟨_, rfl⟩
 replace H : (Z52.l0 k y876 (([(⟨#[]⟩ : ByteArray)] : List ByteArray)) 0) = some (r1, r2, r3) := by first | (rw [hy876]; exact H) | exact H
 have Ny876 := A_ hy876
 clear hy876
 obtain ⟨y879, hy879⟩ : ∃ y_ : List ByteArray, y_ = (([(⟨#[]⟩ : ByteArray)] : List ByteArray)) := ⟨_, rfl⟩
 replace H : (Z52.l0 k y876 y879 0) = some (r1, r2, r3) := by first | (rw [hy879]; exact H) | exact H
 have Ny879 := A_ hy879
 clear hy879
 have H' := A_ H
 clear H
 go_enter Try.func84, Try.ntmps84
 go_wp2_with (first | ((with_reducible refine gB_ (N := 1) rfl ?_); refine bx_ 1 #[.slice A0_0 l0_0.length c0_0, .slice A0_1 l0_1.length c0_1] 25 ?_; intro gb869 hg w3 hbox hb; have BK869 := A_ hbox; have GW869 := gw_ w hg; have GE869 := GW869; replace HB := b1_ hb; clear hb hbox hg; obtain ⟨hcz4_0, hcz4_1, hfz4_0, hfz4_1⟩ := c2_ BK869) | ((with_reducible refine gA_ (f := 82) rfl ?_); refine gL_ (some 12) Try.func82 #[.agg #[.slice A0_0 l0_0.length c0_0, .slice A0_1 l0_1.length c0_1]] rfl qa_ ?_; (with_reducible refine (Z49.calls k _ _ l0_0 _ _ l0_1 t870 t873 _ (cb_ HR0_0) HC0_0.out (cb_ HR0_1) HC0_1.out A2.out).mono ?_); rintro e w5 ⟨v871, v874, rfl, ho0, ho1, hb⟩; refine ⟨_, rfl, ?_⟩; have HO872 := A_ (rE_ (Kd.R_newM (M := fun k_ => (w.heap.size ≤ k_)) ho0 (bF_ hB_) (fun k_ h_ => h_)) (bF_ hB_)); have HO875 := A_ (rE_ (Kd.R_newM (M := fun k_ => (w.heap.size ≤ k_)) ho1 (bF_ hB_) (fun k_ h_ => h_)) (bF_ hB_)); replace BK869 := bb_ BK869 hb; replace HB := b1_ hb; clear hb ho0 ho1; obtain ⟨Ao6, co6, eo6⟩ := Kd.R_slice HO872.out; subst eo6; obtain ⟨Ao7, co7, eo7⟩ := Kd.R_slice HO875.out; subst eo7) | ((with_reducible refine gB_ (N := 13) rfl ?_); refine Kd.N_lit k25 _ 25 ?hg (N' := 13) ?hd (xs := ([(⟨t870, t873⟩ : S25)] : List (S25))) (inner := [.slice Ao6 t870.length co6, .slice Ao7 t873.length co7]) (ok := (fun k_ => (w.heap.size ≤ k_) ∧ k_ ≠ gb869)) (okp := (fun k_ => (w.heap.size ≤ k_) ∧ k_ ≠ gb869)) ?hr ?hp (fun _ hk => hk) ((show ∀ k_, w5.heap.size ≤ k_ → (fun k_ => (w.heap.size ≤ k_) ∧ k_ ≠ gb869) k_ from fun k_ hk => ⟨(Nat.le_trans (bF_ hB_) hk), Kd.freshB (kk_ BK869) k_ hk⟩) _ (nA_ _)) (Below.refl _ _) (nA_ _) (by simp) ?_; (case hd => rfl); (case hg => rfl); (case hr => first | (go_simp; done) | (go_simp; rfl)); (case hp => exact (Reps.c2 (show Kd.FK k25 _ _ (⟨t870, t873⟩ : S25) [.slice Ao6 t870.length co6, .slice Ao7 t873.length co7] from (k25_mkF _ _ (⟨t870, t873⟩ : S25) (Kd.R_reads' (Kd.R_mono (ok' := (fun k_ => (w.heap.size ≤ k_) ∧ k_ ≠ gb869)) (Kd.R_types (HO872.out) BK869.out (by decide)) (fun k_ hk => ⟨hk.1.1, hk.2⟩))).2.1 (Kd.R_F (Kd.R_mono (ok' := (fun k_ => (w.heap.size ≤ k_) ∧ k_ ≠ gb869)) (Kd.R_types (HO872.out) BK869.out (by decide)) (fun k_ hk => ⟨hk.1.1, hk.2⟩))) (Kd.R_reads' (Kd.R_mono (ok' := (fun k_ => (w.heap.size ≤ k_) ∧ k_ ≠ gb869)) (Kd.R_types (HO875.out) BK869.out (by decide)) (fun k_ hk => ⟨hk.1.1, hk.2⟩))).2.1 (Kd.R_F (Kd.R_mono (ok' := (fun k_ => (w.heap.size ≤ k_) ∧ k_ ≠ gb869)) (Kd.R_types (HO875.out) BK869.out (by decide)) (fun k_ hk => ⟨hk.1.1, hk.2⟩))))) (Reps.none _ _))); intro v877 w8 ho9 hb hg_ hnew_; clear hg_ hnew_; (first | rw [← Ny876.out] at ho9 | (simp only [Int.reduceToNat] at ho9; rw [← Ny876.out] at ho9)); have HO878 := A_ (Kd.N_lower ho9 (bF_ hB_)); replace BK869 := bb_ BK869 hb; replace HB := b1_ hb; clear HO872 HO875; clear hb ho9) | ((with_reducible refine gB_ (N := 14) rfl ?_); refine Kd.R_lit Kd.string _ 9 ?hg (N := 14) ?hd (xs := ([(⟨#[]⟩ : ByteArray)] : List ByteArray)) (inner := [.string (⟨#[]⟩ : ByteArray)]) (ok := fun _ => True) (okp := fun _ => True) ?hr ?hp (fun _ hk => hk) trivial (Below.refl _ _) (nA_ _) (by simp) ?_; (case hd => rfl); (case hg => rfl); (case hr => first | (go_simp; done) | (go_simp; rfl)); (case hp => exact (Reps.one (show Kd.M Kd.string _ _ _ (⟨#[]⟩ : ByteArray) [.string (⟨#[]⟩ : ByteArray)] from rfl) (Reps.none _ _))); intro v880 w10 ho11 hb hg_ hnew_; clear hg_ hnew_; (first | rw [← Ny879.out] at ho11 | (simp only [Int.reduceToNat] at ho11; rw [← Ny879.out] at ho11)); replace HO878 := A_ (Kd.N_elder' (by (with_reducible repeat (first | apply Kd.N_alloc | apply Kd.N_drewN | apply Kd.N_drew)); exact HO878.out) (Kd.R_base ho11) hb); have HO881 := A_ (rE_ (Kd.R_newM (M := fun k_ => (w.heap.size ≤ k_)) ho11 (bF_ hB_) (fun k_ h_ => h_)) (bF_ hB_)); replace BK869 := bb_ BK869 hb; replace HB := b1_ hb; clear hb ho11))
 go_loopg [5, 6, 7] k (fun kq v5 v6 v7 w' => ∃ (x5_1 : List (S25)) (x6_1 : List ByteArray) (x7_1 : Int), v7 = .int .i64 x7_1 ∧ Aside0 (Z52.l0 kq x5_1 x6_1 x7_1 = some (r1, r2, r3)) ∧ Aside0 (kq ≤ k) ∧ Aside0 (Kd.N k25 25 w' w.heap.size (fun k_ => (w.heap.size ≤ k_) ∧ some k_ ≠ (v6 : Value).ownBlock ∧ k_ ≠ gb869) v5 x5_1) ∧ Aside0 (Kd.R Kd.string 9 w' w.heap.size (fun k_ => (w.heap.size ≤ k_)) v6 x6_1) ∧ Aside0 (w'.heap[gb869]? = some (.cells #[(.slice A0_0 l0_0.length c0_0), (.slice A0_1 l0_1.length c0_1)] 25 (0, 0))) ∧ Aside0 (Below w.heap.size w w'))
 case atStart => exact ⟨(y876), (y879), (0), qc_, H', ⟨nA_ _⟩, ⟨by (with_reducible repeat (first | apply Kd.N_alloc | apply Kd.N_drewN | apply Kd.N_drew)); exact Kd.N_mono HO878.out (fun _ hk => ⟨hk.1.1, ⟨hk.2, hk.1.2⟩⟩)⟩, ⟨(rw_ (Kd.R_mono HO881.out (fun _ hk => hk.1)))⟩, ⟨(kk_ BK869)⟩, ⟨hB_⟩⟩
 case round =>
  clear H'
  obtain ⟨x5_1, x6_1, x7_1, rfl, HA, HK1, HO_5, HO_6, BK869, HB⟩ := hrel
  cases gk with
  | zero => exact absurd HA.out (by simp [Z52.l0])
  | succ k1 =>
   have H := HA.out
   clear HA
   simp only [Z52.l0] at H
   by_cases c12 : x7_1 < (x5_1.length : Int)
   ·rw [if_pos c12] at H
    have c12b0 := oC_ c12
    clear c12
    obtain ⟨y882, hy882⟩ : ∃ y_ : List Int, y_ = (([84, 83] : List Int)) := ⟨_, rfl⟩
    replace H : (Z52.l1 k1 x5_1 x6_1 x7_1 y882 (y882.length : Int) 0) = some (r1, r2, r3) := by first | (rw [hy882]; exact H) | exact H
    have Ny882 := A_ hy882
    clear hy882
    have H' := A_ H
    clear H
    obtain ⟨Ao13, co13, eo13⟩ := Kd.N_slice HO_5.out
    subst eo13
    go_wp2_with (first | ((with_reducible refine gB_ (N := 21) rfl ?_); refine Kd.R_lit (Kd.int .u8) _ 5 ?hg (N := 21) ?hd (xs := ([84, 83] : List Int)) (inner := [.int .u8 84, .int .u8 83]) (ok := fun _ => True) (okp := fun _ => True) ?hr ?hp (fun _ hk => hk) trivial (Below.refl _ _) (nA_ _) (by simp) ?_; (case hd => rfl); (case hg => rfl); (case hr => first | (go_simp; done) | (go_simp; rfl)); (case hp => exact (Reps.one (show Kd.M (Kd.int .u8) _ _ _ 84 [.int .u8 84] from rfl) (Reps.one (show Kd.M (Kd.int .u8) _ _ _ 83 [.int .u8 83] from rfl) (Reps.none _ _)))); intro v883 w14 ho15 hb hg_ hnew_; clear hg_ hnew_; (first | rw [← Ny882.out] at ho15 | (simp only [Int.reduceToNat] at ho15; rw [← Ny882.out] at ho15)); replace HO_5 := A_ (Kd.N_elder' (by (with_reducible repeat (first | apply Kd.N_alloc | apply Kd.N_drewN | apply Kd.N_drew)); exact HO_5.out) (Kd.R_base ho15) hb); replace HO_6 := rb_ HO_6 hb; have HO884 := A_ (rE_ (Kd.R_newM (M := fun k_ => (w.heap.size ≤ k_)) ho15 (bF_ hB_) (fun k_ h_ => h_)) (bF_ hB_)); replace BK869 := bb_ BK869 hb; replace HB := b1_ hb; clear hb ho15; obtain ⟨Ao16, co16, eo16⟩ := Kd.R_slice HO884.out; subst eo16))
    go_loopg [5, 6, 23] k1 (fun kq v5 v6 v23 w' => ∃ (x5_2 : List (S25)) (x6_2 : List ByteArray) (x23_2 : Int), v23 = .int .i64 x23_2 ∧ Aside0 (Z52.l1 kq x5_2 x6_2 x7_1 y882 (y882.length : Int) x23_2 = some (r1, r2, r3)) ∧ Aside0 (kq ≤ k1) ∧ Aside0 (Kd.N k25 25 w' w.heap.size (fun k_ => (w.heap.size ≤ k_) ∧ some k_ ≠ (v6 : Value).ownBlock ∧ some k_ ≠ ((.slice Ao16 y882.length co16) : Value).ownBlock ∧ k_ ≠ gb869) v5 x5_2) ∧ Aside0 (Kd.R Kd.string 9 w' w.heap.size (fun k_ => (w.heap.size ≤ k_)) v6 x6_2) ∧ Aside0 (Kd.R (Kd.int .u8) 5 w' w.heap.size (fun k_ => (w.heap.size ≤ k_)) (.slice Ao16 y882.length co16) y882) ∧ Aside0 (w'.heap[gb869]? = some (.cells #[(.slice A0_0 l0_0.length c0_0), (.slice A0_1 l0_1.length c0_1)] 25 (0, 0))) ∧ Aside0 (Below w.heap.size w w'))
    case atStart => exact ⟨(x5_1), (x6_1), (0), qc_, H', ⟨nA_ _⟩, ⟨by (with_reducible repeat (first | apply Kd.N_alloc | apply Kd.N_drewN | apply Kd.N_drew)); exact Kd.N_mono HO_5.out (fun _ hk => ⟨hk.1.1, ⟨hk.1.2.1, ⟨hk.2, hk.1.2.2⟩⟩⟩)⟩, ⟨(rr_ HO_6)⟩, ⟨(rw_ (Kd.R_mono HO884.out (fun _ hk => hk.1)))⟩, ⟨(kk_ BK869)⟩, ⟨hB_⟩⟩
    case round =>
     clear H'
     obtain ⟨x5_2, x6_2, x23_2, rfl, HA, HK2, HO_5, HO_6, HO_21, BK869, HB⟩ := hrel
     cases gk with
     | zero => exact absurd HA.out (by simp [Z52.l1])
     | succ k2 =>
      have H := HA.out
      clear HA
      simp only [Z52.l1] at H
      by_cases c17 : x23_2 < (y882.length : Int)
      ·rw [if_pos c17] at H
       have c17b0 := oC_ c17
       clear c17
       have c18 := cp_ H
       replace H := ca_ H
       have c18b0 := oC_ c18
       clear c18
       have c19 := cp_ H
       replace H := ca_ H
       have c19b0 := oC_ c19
       clear c19
       have c20 := cp_ H
       replace H := ca_ H
       have c20b0 := oC_ c20
       clear c20
       have c21 := cp_ H
       replace H := ca_ H
       have c21b0 := oC_ c21
       clear c21
       obtain ⟨⟨t887, t890⟩, A22, H⟩ := bi_ H
       try dsimp only at H
       obtain ⟨⟨t893, t896⟩, A23, H⟩ := bi_ H
       try dsimp only at H
       obtain ⟨t900, A24, H⟩ := bi_ H
       by_cases c25 : t900 < 0
       ·rw [if_pos c25] at H
        have c25b0 := oC_ c25
        clear c25
        have c26 := cp_ H
        replace H := ca_ H
        have LMc26 := A_ c26
        clear c26
        obtain ⟨y901, hy901⟩ : ∃ y_ : List (S25), y_ = (x5_2 ++ [(⟨t893, t896⟩ : S25)]) := ⟨_, rfl⟩
        replace H : (if x7_1 < (x6_2.length : Int) then ((some (([rd y882 x23_2] : List Int) : List Int)).bind fun y905 => (if (rdOf ByteArray.empty x6_2 x7_1).size + (strOfNums y905).size ≤ 9223372036854775807 then (if x6_2.length < 8796093022208 then (Z52.l1 k2 y901 (x6_2 ++ [(rdOf ByteArray.empty x6_2 x7_1) ++ (strOfNums y905)]) x7_1 y882 (y882.length : Int) (wrap64 (x23_2 + 1))) else (none)) else (none))) else (none)) = some (r1, r2, r3) := by first | (rw [hy901]; exact H) | exact H
        have Ny901 := A_ hy901
        clear hy901
        have c27 := cp_ H
        replace H := ca_ H
        have c27b0 := oC_ c27
        clear c27
        obtain ⟨y905, hy905⟩ : ∃ y_ : List Int, y_ = (([rd y882 x23_2] : List Int)) := ⟨_, rfl⟩
        replace H : (if (rdOf ByteArray.empty x6_2 x7_1).size + (strOfNums y905).size ≤ 9223372036854775807 then (if x6_2.length < 8796093022208 then (Z52.l1 k2 y901 (x6_2 ++ [(rdOf ByteArray.empty x6_2 x7_1) ++ (strOfNums y905)]) x7_1 y882 (y882.length : Int) (wrap64 (x23_2 + 1))) else (none)) else (none)) = some (r1, r2, r3) := by first | (rw [hy905]; exact H) | exact H
        have Ny905 := A_ hy905
        clear hy905
        have c28 := cp_ H
        replace H := ca_ H
        have c28b0 := eq_true c28
        have c28b1 := oC_ c28
        try have c28b2 : (9223372036854775807 < (rdOf ByteArray.empty x6_2 x7_1).size + (strOfNums y905).size) = False := eq_false (Nat.not_lt.2 c28)
        have c29 := cp_ H
        replace H := ca_ H
        have LMc29 := A_ c29
        clear c29
        obtain ⟨y908, hy908⟩ : ∃ y_ : List ByteArray, y_ = (x6_2 ++ [(rdOf ByteArray.empty x6_2 x7_1) ++ (strOfNums y905)]) := ⟨_, rfl⟩
        replace H : (Z52.l1 k2 y901 y908 x7_1 y882 (y882.length : Int) (wrap64 (x23_2 + 1))) = some (r1, r2, r3) := by first | (rw [hy908]; exact H) | exact H
        have Ny908 := A_ hy908
        clear hy908
        have H' := A_ H
        clear H
        have p885 : 0 ≤ (x23_2 : Int) := oB_ qe_
        have q885 : x23_2 < (y882.length : Int) := oB_ qe_
        obtain ⟨ad885, e885, hx885_0⟩ := Kd.at_int (Kd.R_reads' HO_21.out).2.2 x23_2 p885 q885
        cases e885
        replace p885 := eq_true p885
        replace q885 := eq_true q885
        obtain ⟨Ao30, co30, eo30⟩ := Kd.N_slice HO_5.out
        subst eo30
        have p886 : 0 ≤ (x7_1 : Int) := oB_ qe_
        have q886 : x7_1 < (x5_2.length : Int) := oB_ qe_
        obtain ⟨ad886, A886_0, c886_0, A886_1, c886_1, e886, hx886_0, hx886_1, hl886_0, hi886_0, hl886_1, hi886_1⟩ := at_T25 (Kd.N_reads' HO_5.out).2.2 x7_1 p886 q886
        cases e886
        obtain ⟨ce886, hce886, hMe886, hcc886⟩ := Kd.N_get HO_5.out z25 x7_1 p886 (by first | exact q886 | exact oB_ qe_ | (have e_ := (Kd.N_reads' HO_5.out).1; omega))
        obtain ⟨ua886_0, uc886_0, ua886_1, uc886_1, rfl, ul886_0, ge886_0, ul886_1, ge886_1⟩ := k25_openF hMe886
        have hv886_0 := hcc886 0 _ rfl
        rw [Nat.add_zero] at hv886_0
        replace hv886_0 := Option.some.inj (hv886_0.symm.trans hx886_0)
        injection hv886_0 with hva_ hvn_ hvc_
        rw [hva_] at ge886_0
        rw [hvc_] at ul886_0
        have HL886_0 := A_ (show Kd.V (Kd.int .i64) 3 _ w.heap.size _ _ ((rd_T25 x5_2 x7_1).f0) from Kd.V_mk ul886_0 ge886_0)
        clear hva_ hvn_ hvc_ ge886_0 ul886_0
        have hv886_1 := hcc886 1 _ rfl
        rw [add_field _ _ 1 (by omega)] at hv886_1
        replace hv886_1 := Option.some.inj (hv886_1.symm.trans hx886_1)
        injection hv886_1 with hva_ hvn_ hvc_
        rw [hva_] at ge886_1
        rw [hvc_] at ul886_1
        have HL886_1 := A_ (show Kd.V (Kd.int .i64) 3 _ w.heap.size _ _ ((rd_T25 x5_2 x7_1).f1) from Kd.V_mk ul886_1 ge886_1)
        clear hva_ hvn_ hvc_ ge886_1 ul886_1
        clear hcc886 hce886
        have HR886_0 := A_ hi886_0
        have HC886_0 := A_ hl886_0
        clear hi886_0 hl886_0
        have HR886_1 := A_ hi886_1
        have HC886_1 := A_ hl886_1
        clear hi886_1 hl886_1
        replace p886 := eq_true p886
        replace q886 := eq_true q886
        try go_wp2_with (first | ((with_reducible refine gA_ (f := 87) rfl ?_); refine gL_ (some 32) Try.func87 #[.agg #[.slice A886_0 ((rd_T25 x5_2 x7_1).f0).length c886_0, .slice A886_1 ((rd_T25 x5_2 x7_1).f1).length c886_1], .int .u8 (rd y882 x23_2)] rfl qa_ ?_; (with_reducible refine (Z41.calls k2 _ _ ((rd_T25 x5_2 x7_1).f0) _ _ ((rd_T25 x5_2 x7_1).f1) (rd y882 x23_2) t887 t890 _ ?side1 ?side2 ?side3 ?side4 A22.out).mono ?_); (case side1 => repeat (first | exact (by repeat (first | (with_reducible exact HR886_0.out) | (with_reducible refine cA_ ?_ _) | (with_reducible refine cB_ ?_ _) | (with_reducible refine cC_ ?_) | exact HR886_0.out)) | (with_reducible first | refine cA_ ?_ _ | refine cB_ ?_ _ | refine cC_ ?_))); (case side2 => exact HC886_0.out); (case side3 => repeat (first | exact (by repeat (first | (with_reducible exact HR886_1.out) | (with_reducible refine cA_ ?_ _) | (with_reducible refine cB_ ?_ _) | (with_reducible refine cC_ ?_) | exact HR886_1.out)) | (with_reducible first | refine cA_ ?_ _ | refine cB_ ?_ _ | refine cC_ ?_))); (case side4 => exact HC886_1.out); rintro e w31 ⟨v888, v891, rfl, ho0, ho1, hb⟩; refine ⟨_, rfl, ?_⟩; replace HO_5 := A_ (Kd.N_mono (Kd.N_told (Kd.N_told (Kd.N_old (by (with_reducible repeat (first | apply Kd.N_alloc | apply Kd.N_drewN | apply Kd.N_drew)); exact HO_5.out) hb) (Kd.R_base ho0)) (Kd.R_base ho1)) (fun _ h_ => h_.1)); replace HO_6 := rb_ HO_6 hb; replace HO_21 := rb_ HO_21 hb; replace HL886_0 := A_ (Kd.V_mono (Kd.V_told (Kd.V_told (Kd.V_old (by (with_reducible repeat (first | apply Kd.V_alloc | apply Kd.V_drewN | apply Kd.V_drew)); exact HL886_0.out) hb) (Kd.R_base ho0)) (Kd.R_base ho1)) (fun _ h_ => h_.1)); replace HL886_1 := A_ (Kd.V_mono (Kd.V_told (Kd.V_told (Kd.V_old (by (with_reducible repeat (first | apply Kd.V_alloc | apply Kd.V_drewN | apply Kd.V_drew)); exact HL886_1.out) hb) (Kd.R_base ho0)) (Kd.R_base ho1)) (fun _ h_ => h_.1)); have HO889 := A_ (rE_ (Kd.R_newM (M := fun k_ => (w.heap.size ≤ k_)) ho0 (bF_ hB_) (fun k_ h_ => h_)) (bF_ hB_)); have HO892 := A_ (rE_ (Kd.R_newM (M := fun k_ => (w.heap.size ≤ k_)) ho1 (bF_ hB_) (fun k_ h_ => h_)) (bF_ hB_)); replace BK869 := bb_ BK869 hb; replace HR886_0 := A_ (cD_ (by repeat (first | (with_reducible exact HR886_0.out) | (with_reducible refine cA_ ?_ _) | (with_reducible refine cB_ ?_ _) | (with_reducible refine cC_ ?_) | exact HR886_0.out)) hb); replace HR886_1 := A_ (cD_ (by repeat (first | (with_reducible exact HR886_1.out) | (with_reducible refine cA_ ?_ _) | (with_reducible refine cB_ ?_ _) | (with_reducible refine cC_ ?_) | exact HR886_1.out)) hb); replace HB := b1_ hb; clear hb ho0 ho1; obtain ⟨Ao32, co32, eo32⟩ := Kd.R_slice HO889.out; subst eo32; obtain ⟨Ao33, co33, eo33⟩ := Kd.R_slice HO892.out; subst eo33) | ((with_reducible refine gA_ (f := 82) rfl ?_); refine gL_ (some 33) Try.func82 #[.agg #[.slice Ao32 t887.length co32, .slice Ao33 t890.length co33]] rfl qa_ ?_; (with_reducible refine (Z49.calls k2 _ _ t887 _ _ t890 t893 t896 _ (cr_ HO889) ((Kd.R_reads' HO889.out).2.1) (cr_ HO892) ((Kd.R_reads' HO892.out).2.1) A23.out).mono ?_); rintro e w34 ⟨v894, v897, rfl, ho0, ho1, hb⟩; refine ⟨_, rfl, ?_⟩; replace HO_5 := A_ (Kd.N_mono (Kd.N_told (Kd.N_told (Kd.N_old (by (with_reducible repeat (first | apply Kd.N_alloc | apply Kd.N_drewN | apply Kd.N_drew)); exact HO_5.out) hb) (Kd.R_base ho0)) (Kd.R_base ho1)) (fun _ h_ => h_.1)); replace HO_6 := rb_ HO_6 hb; replace HO_21 := rb_ HO_21 hb; replace HL886_0 := A_ (Kd.V_mono (Kd.V_told (Kd.V_told (Kd.V_old (by (with_reducible repeat (first | apply Kd.V_alloc | apply Kd.V_drewN | apply Kd.V_drew)); exact HL886_0.out) hb) (Kd.R_base ho0)) (Kd.R_base ho1)) (fun _ h_ => h_.1)); replace HL886_1 := A_ (Kd.V_mono (Kd.V_told (Kd.V_told (Kd.V_old (by (with_reducible repeat (first | apply Kd.V_alloc | apply Kd.V_drewN | apply Kd.V_drew)); exact HL886_1.out) hb) (Kd.R_base ho0)) (Kd.R_base ho1)) (fun _ h_ => h_.1)); have HO895 := A_ (rE_ (Kd.R_new' (Kd.R_new' (Kd.R_newM (M := fun k_ => (w.heap.size ≤ k_)) ho0 (bF_ hB_) (fun k_ h_ => h_)) (Kd.R_lt (rr_ HO889))) (Kd.R_lt (rr_ HO892))) (bF_ hB_)); have HO898 := A_ (rE_ (Kd.R_new' (Kd.R_new' (Kd.R_newM (M := fun k_ => (w.heap.size ≤ k_)) ho1 (bF_ hB_) (fun k_ h_ => h_)) (Kd.R_lt (rr_ HO889))) (Kd.R_lt (rr_ HO892))) (bF_ hB_)); replace HO889 := A_ (Kd.R_mono (Kd.R_told (Kd.R_told (Kd.R_old (rr_ HO889) hb) (Kd.R_base ho0)) (Kd.R_base ho1)) (fun _ h_ => h_.1)); replace HO892 := A_ (Kd.R_mono (Kd.R_told (Kd.R_told (Kd.R_old (rr_ HO892) hb) (Kd.R_base ho0)) (Kd.R_base ho1)) (fun _ h_ => h_.1)); replace BK869 := bb_ BK869 hb; replace HR886_0 := A_ (cD_ (by repeat (first | (with_reducible exact HR886_0.out) | (with_reducible refine cA_ ?_ _) | (with_reducible refine cB_ ?_ _) | (with_reducible refine cC_ ?_) | exact HR886_0.out)) hb); replace HR886_1 := A_ (cD_ (by repeat (first | (with_reducible exact HR886_1.out) | (with_reducible refine cA_ ?_ _) | (with_reducible refine cB_ ?_ _) | (with_reducible refine cC_ ?_) | exact HR886_1.out)) hb); replace HB := b1_ hb; clear hb ho0 ho1) | ((with_reducible refine gB_ (N := 10) rfl ?_); refine bx_ 10 #[.slice none 0 0, .slice none 0 0] 25 ?_; intro gb899 hg w35 hbox hb; replace HO_5 := A_ (Kd.N_below (Kd.N_elderB (by (with_reducible repeat (first | apply Kd.N_alloc | apply Kd.N_drewN | apply Kd.N_drew)); exact HO_5.out) gb899 (Nat.le_of_eq hg.symm)) hb); replace HO_6 := rb_ HO_6 hb; replace HO_21 := rb_ HO_21 hb; replace HL886_0 := A_ (Kd.V_below (Kd.V_elderB (by (with_reducible repeat (first | apply Kd.V_alloc | apply Kd.V_drewN | apply Kd.V_drew)); exact HL886_0.out) gb899 (Nat.le_of_eq hg.symm)) hb); replace HL886_1 := A_ (Kd.V_below (Kd.V_elderB (by (with_reducible repeat (first | apply Kd.V_alloc | apply Kd.V_drewN | apply Kd.V_drew)); exact HL886_1.out) gb899 (Nat.le_of_eq hg.symm)) hb); replace HO889 := rb_ HO889 hb; replace HO892 := rb_ HO892 hb; replace HO895 := rb_ HO895 hb; replace HO898 := rb_ HO898 hb; replace HR886_0 := A_ (cD_ (by repeat (first | (with_reducible exact HR886_0.out) | (with_reducible refine cA_ ?_ _) | (with_reducible refine cB_ ?_ _) | (with_reducible refine cC_ ?_) | exact HR886_0.out)) hb); replace HR886_1 := A_ (cD_ (by repeat (first | (with_reducible exact HR886_1.out) | (with_reducible refine cA_ ?_ _) | (with_reducible refine cB_ ?_ _) | (with_reducible refine cC_ ?_) | exact HR886_1.out)) hb); have BK899 := A_ hbox; have GW899 := gw_ w hg; have GE899 := GW899; replace HB := b1_ hb; have NB869_899 := gN_ BK869 hg; have NB899_869 := gP_ BK869 hg; replace BK869 := bb_ BK869 hb; clear hb hbox hg; obtain ⟨Ao36, co36, eo36⟩ := Kd.R_slice HO895.out; subst eo36; have hnb37 := NB899_869.out; have hnc37 := NB869_899.out; obtain ⟨hcz38_0, hcz38_1, hfz38_0, hfz38_1⟩ := c2_ BK899; obtain ⟨Ao39, co39, eo39⟩ := Kd.R_slice HO898.out; subst eo39) | ((with_reducible refine gA_ (f := 81) rfl ?_); refine gL_ (some 36) Try.func81 #[.slice (some ad886) x5_2.length co30, .agg #[.slice Ao36 t893.length co36, .slice Ao39 t896.length co39]] rfl qa_ ?_; (with_reducible refine (Z61.calls k2 _ _ x5_2 _ _ t893 _ _ t896 t900 _ ?side1 ?side2 ?side3 ?side4 ?side5 ?side6 A24.out).mono ?_); (case side1 => refine (Kd.N_reads' (e := 25) (base := w.heap.size) (ok := fun k_ => (((((((w.heap.size ≤ k_) ∧ (some k_ ≠ (u6 : Value).ownBlock ∧ (some k_ ≠ (.slice (some ad885) y882.length co16 : Value).ownBlock ∧ k_ ≠ gb869))) ∧ some k_ ≠ (.slice Ao32 t887.length co32 : Value).ownBlock) ∧ some k_ ≠ (.slice Ao33 t890.length co33 : Value).ownBlock) ∧ some k_ ≠ (.slice Ao36 t893.length co36 : Value).ownBlock) ∧ some k_ ≠ (.slice Ao39 t896.length co39 : Value).ownBlock) ∧ k_ ≠ gb899)) (n := x5_2.length) (c := co30) ?_).2.2; exact (by (with_reducible repeat (first | apply Kd.N_alloc | apply Kd.N_drewN | apply Kd.N_drew)); exact (Kd.N_mono (Kd.N_far (p := ⟨gb899, 1, none⟩) (Kd.N_far (p := ⟨gb899, 0, none⟩) (Kd.N_mono HO_5.out (fun k_ hk => (⟨hk, hk.2⟩ : _ ∧ k_ ≠ gb899))) (fun _ hk => hk.2) (.slice Ao36 t893.length co36)) (fun _ hk => hk.2) (.slice Ao39 t896.length co39)) (fun _ h_ => h_.1)))); (case side2 => exact (Kd.N_reads' HO_5.out).2.1); (case side3 => refine (Kd.R_reads' (e := 3) (base := w.heap.size) (ok := fun k_ => ((((w.heap.size ≤ k_) ∧ some k_ ≠ (.slice Ao39 t896.length co39 : Value).ownBlock) ∧ some k_ ≠ (.slice Ao32 t887.length co32 : Value).ownBlock) ∧ some k_ ≠ (.slice Ao33 t890.length co33 : Value).ownBlock)) (n := t893.length) (c := co36) ?_).2.2; exact (rw_ (fa_ HO895 BK899))); (case side4 => exact (Kd.R_reads' HO895.out).2.1); (case side5 => refine (Kd.R_reads' (e := 3) (base := w.heap.size) (ok := fun k_ => ((((w.heap.size ≤ k_) ∧ some k_ ≠ (.slice Ao36 t893.length co36 : Value).ownBlock) ∧ some k_ ≠ (.slice Ao32 t887.length co32 : Value).ownBlock) ∧ some k_ ≠ (.slice Ao33 t890.length co33 : Value).ownBlock)) (n := t896.length) (c := co39) ?_).2.2; exact (rw_ (fa_ HO898 BK899))); (case side6 => exact (Kd.R_reads' HO898.out).2.1); rintro e w40 ⟨rfl, hb⟩; refine ⟨_, rfl, ?_⟩; replace HO_5 := A_ (Kd.N_below (by (with_reducible repeat (first | apply Kd.N_alloc | apply Kd.N_drewN | apply Kd.N_drew)); exact (Kd.N_mono (Kd.N_far (p := ⟨gb899, 1, none⟩) (Kd.N_far (p := ⟨gb899, 0, none⟩) (Kd.N_mono HO_5.out (fun k_ hk => (⟨hk, hk.2⟩ : _ ∧ k_ ≠ gb899))) (fun _ hk => hk.2) (.slice Ao36 t893.length co36)) (fun _ hk => hk.2) (.slice Ao39 t896.length co39)) (fun _ h_ => h_.1))) hb); replace HO_6 := A_ (rD_ (rw_ (fa_ HO_6 BK899)) hb); replace HO_21 := A_ (rD_ (rw_ (fa_ HO_21 BK899)) hb); replace HO889 := A_ (rD_ (rw_ (fa_ HO889 BK899)) hb); replace HO892 := A_ (rD_ (rw_ (fa_ HO892 BK899)) hb); replace HO895 := A_ (rD_ (rw_ (fa_ HO895 BK899)) hb); replace HO898 := A_ (rD_ (rw_ (fa_ HO898 BK899)) hb); replace BK869 := A_ (kE_ (g := gb869) (o := .cells #[.slice A0_0 l0_0.length c0_0, .slice A0_1 l0_1.length c0_1] 25 (0, 0)) (by (with_reducible repeat (first | refine kA_ ?_ _ | refine kB_ ?_ | refine kC_ ?_ _)); refine blk_far ?_ NB869_899.out _; (with_reducible repeat (first | refine kA_ ?_ _ | refine kB_ ?_ | refine kC_ ?_ _)); refine blk_far ?_ NB869_899.out _; (with_reducible repeat (first | refine kA_ ?_ _ | refine kB_ ?_ | refine kC_ ?_ _)); exact BK869.out) hb); replace HR886_0 := A_ (cD_ ((Kd.V_reads' (by (with_reducible repeat (first | apply Kd.V_alloc | apply Kd.V_drewN | apply Kd.V_drew)); exact (Kd.V_mono (Kd.V_far (p := ⟨gb899, 1, none⟩) (Kd.V_far (p := ⟨gb899, 0, none⟩) (Kd.V_mono HL886_0.out (fun k_ hk => (⟨hk, hk.2⟩ : _ ∧ k_ ≠ gb899))) (fun _ hk => hk.2) (.slice Ao36 t893.length co36)) (fun _ hk => hk.2) (.slice Ao39 t896.length co39)) (fun _ h_ => h_.1)))).2.2) hb); replace HL886_0 := A_ (Kd.V_below (by (with_reducible repeat (first | apply Kd.V_alloc | apply Kd.V_drewN | apply Kd.V_drew)); exact (Kd.V_mono (Kd.V_far (p := ⟨gb899, 1, none⟩) (Kd.V_far (p := ⟨gb899, 0, none⟩) (Kd.V_mono HL886_0.out (fun k_ hk => (⟨hk, hk.2⟩ : _ ∧ k_ ≠ gb899))) (fun _ hk => hk.2) (.slice Ao36 t893.length co36)) (fun _ hk => hk.2) (.slice Ao39 t896.length co39)) (fun _ h_ => h_.1))) hb); replace HR886_1 := A_ (cD_ ((Kd.V_reads' (by (with_reducible repeat (first | apply Kd.V_alloc | apply Kd.V_drewN | apply Kd.V_drew)); exact (Kd.V_mono (Kd.V_far (p := ⟨gb899, 1, none⟩) (Kd.V_far (p := ⟨gb899, 0, none⟩) (Kd.V_mono HL886_1.out (fun k_ hk => (⟨hk, hk.2⟩ : _ ∧ k_ ≠ gb899))) (fun _ hk => hk.2) (.slice Ao36 t893.length co36)) (fun _ hk => hk.2) (.slice Ao39 t896.length co39)) (fun _ h_ => h_.1)))).2.2) hb); replace HL886_1 := A_ (Kd.V_below (by (with_reducible repeat (first | apply Kd.V_alloc | apply Kd.V_drewN | apply Kd.V_drew)); exact (Kd.V_mono (Kd.V_far (p := ⟨gb899, 1, none⟩) (Kd.V_far (p := ⟨gb899, 0, none⟩) (Kd.V_mono HL886_1.out (fun k_ hk => (⟨hk, hk.2⟩ : _ ∧ k_ ≠ gb899))) (fun _ hk => hk.2) (.slice Ao36 t893.length co36)) (fun _ hk => hk.2) (.slice Ao39 t896.length co39)) (fun _ h_ => h_.1))) hb); replace BK899 := A_ (kE_ (g := gb899) (o := .cells #[.slice Ao36 t893.length co36, .slice Ao39 t896.length co39] 25 (0, 0)) qp_ hb); replace HB := b1_ hb; clear hb; obtain ⟨hcz41_0, hcz41_1, hfz41_0, hfz41_1⟩ := c2_ BK899) | ((with_reducible refine gate_builtin (b := .append) (xs := #[.tmp 38, .tmp 40]) rfl ?_); at_builtin; refine Kd.N_append k25 (w0 := w) w.heap.size rfl (.tmp 38) (.tmp 40) 36 25 (.agg #[(.slice none 0 0), (.slice none 0 0)]) 48 rfl Try.underlying36 info25 rfl (by decide) (by omega) (.slice (some ad886) x5_2.length co30) x5_2 (⟨t893, t896⟩ : S25) [.slice Ao36 t893.length co36, .slice Ao39 t896.length co39] (fun k_ => (w.heap.size ≤ k_) ∧ some k_ ≠ (u6 : Value).ownBlock ∧ some k_ ≠ (.slice (some ad885) y882.length co16 : Value).ownBlock ∧ some k_ ≠ (.slice Ao32 t887.length co32 : Value).ownBlock ∧ some k_ ≠ (.slice Ao33 t890.length co33 : Value).ownBlock ∧ k_ ≠ gb869 ∧ k_ ≠ gb899) (fun k_ => ((fun k_ => (w.heap.size ≤ k_) ∧ some k_ ≠ (u6 : Value).ownBlock ∧ some k_ ≠ (.slice (some ad885) y882.length co16 : Value).ownBlock ∧ some k_ ≠ (.slice Ao32 t887.length co32 : Value).ownBlock ∧ some k_ ≠ (.slice Ao33 t890.length co33 : Value).ownBlock ∧ k_ ≠ gb869 ∧ k_ ≠ gb899)) k_ ∧ some k_ ≠ (.slice (some ad886) x5_2.length co30 : Value).ownBlock) rfl rfl ?aP (fun _ hk => hk) ?aF ?aO ?aB ?aS ?aL ?_; (case aP => exact (k25_mkF _ _ (⟨t893, t896⟩ : S25) (Kd.R_reads' (Kd.R_mono (ok' := (fun k_ => ((fun k_ => (w.heap.size ≤ k_) ∧ some k_ ≠ (u6 : Value).ownBlock ∧ some k_ ≠ (.slice (some ad885) y882.length co16 : Value).ownBlock ∧ some k_ ≠ (.slice Ao32 t887.length co32 : Value).ownBlock ∧ some k_ ≠ (.slice Ao33 t890.length co33 : Value).ownBlock ∧ k_ ≠ gb869 ∧ k_ ≠ gb899)) k_ ∧ some k_ ≠ (.slice (some ad886) x5_2.length co30 : Value).ownBlock)) (Kd.R_types (Kd.R_types (Kd.R_apart' (Kd.R_apart' (Kd.R_apart' (HO895.out) (Kd.R_typed HO_6.out) (by decide)) (Kd.R_typed HO_21.out) (by decide)) (Kd.N_typed HO_5.out) (by decide)) BK869.out (by decide)) BK899.out (by decide)) (fun k_ hk => ⟨⟨hk.1.1.1.1.1.1.1.1, ⟨hk.1.1.1.1.2, ⟨hk.1.1.1.2, ⟨hk.1.1.1.1.1.1.2, ⟨hk.1.1.1.1.1.2, ⟨hk.1.2, hk.2⟩⟩⟩⟩⟩⟩, hk.1.1.2⟩))).2.1 (Kd.R_F (Kd.R_mono (ok' := (fun k_ => ((fun k_ => (w.heap.size ≤ k_) ∧ some k_ ≠ (u6 : Value).ownBlock ∧ some k_ ≠ (.slice (some ad885) y882.length co16 : Value).ownBlock ∧ some k_ ≠ (.slice Ao32 t887.length co32 : Value).ownBlock ∧ some k_ ≠ (.slice Ao33 t890.length co33 : Value).ownBlock ∧ k_ ≠ gb869 ∧ k_ ≠ gb899)) k_ ∧ some k_ ≠ (.slice (some ad886) x5_2.length co30 : Value).ownBlock)) (Kd.R_types (Kd.R_types (Kd.R_apart' (Kd.R_apart' (Kd.R_apart' (HO895.out) (Kd.R_typed HO_6.out) (by decide)) (Kd.R_typed HO_21.out) (by decide)) (Kd.N_typed HO_5.out) (by decide)) BK869.out (by decide)) BK899.out (by decide)) (fun k_ hk => ⟨⟨hk.1.1.1.1.1.1.1.1, ⟨hk.1.1.1.1.2, ⟨hk.1.1.1.2, ⟨hk.1.1.1.1.1.1.2, ⟨hk.1.1.1.1.1.2, ⟨hk.1.2, hk.2⟩⟩⟩⟩⟩⟩, hk.1.1.2⟩))) (Kd.R_reads' (Kd.R_mono (ok' := (fun k_ => ((fun k_ => (w.heap.size ≤ k_) ∧ some k_ ≠ (u6 : Value).ownBlock ∧ some k_ ≠ (.slice (some ad885) y882.length co16 : Value).ownBlock ∧ some k_ ≠ (.slice Ao32 t887.length co32 : Value).ownBlock ∧ some k_ ≠ (.slice Ao33 t890.length co33 : Value).ownBlock ∧ k_ ≠ gb869 ∧ k_ ≠ gb899)) k_ ∧ some k_ ≠ (.slice (some ad886) x5_2.length co30 : Value).ownBlock)) (Kd.R_types (Kd.R_types (Kd.R_apart' (Kd.R_apart' (Kd.R_apart' (HO898.out) (Kd.R_typed HO_6.out) (by decide)) (Kd.R_typed HO_21.out) (by decide)) (Kd.N_typed HO_5.out) (by decide)) BK869.out (by decide)) BK899.out (by decide)) (fun k_ hk => ⟨⟨hk.1.1.1.1.1.1.1.1, ⟨hk.1.1.1.1.2, ⟨hk.1.1.1.2, ⟨hk.1.1.1.1.1.1.2, ⟨hk.1.1.1.1.1.2, ⟨hk.1.2, hk.2⟩⟩⟩⟩⟩⟩, hk.1.1.2⟩))).2.1 (Kd.R_F (Kd.R_mono (ok' := (fun k_ => ((fun k_ => (w.heap.size ≤ k_) ∧ some k_ ≠ (u6 : Value).ownBlock ∧ some k_ ≠ (.slice (some ad885) y882.length co16 : Value).ownBlock ∧ some k_ ≠ (.slice Ao32 t887.length co32 : Value).ownBlock ∧ some k_ ≠ (.slice Ao33 t890.length co33 : Value).ownBlock ∧ k_ ≠ gb869 ∧ k_ ≠ gb899)) k_ ∧ some k_ ≠ (.slice (some ad886) x5_2.length co30 : Value).ownBlock)) (Kd.R_types (Kd.R_types (Kd.R_apart' (Kd.R_apart' (Kd.R_apart' (HO898.out) (Kd.R_typed HO_6.out) (by decide)) (Kd.R_typed HO_21.out) (by decide)) (Kd.N_typed HO_5.out) (by decide)) BK869.out (by decide)) BK899.out (by decide)) (fun k_ hk => ⟨⟨hk.1.1.1.1.1.1.1.1, ⟨hk.1.1.1.1.2, ⟨hk.1.1.1.2, ⟨hk.1.1.1.1.1.1.2, ⟨hk.1.1.1.1.1.2, ⟨hk.1.2, hk.2⟩⟩⟩⟩⟩⟩, hk.1.1.2⟩))))); (case aB => exact hB_); (case aF => exact (fun k_ hk => ⟨(Nat.le_trans (bF_ hB_) hk), Kd.fresh' (Kd.R_lt (rr_ HO_6)) k_ hk, Kd.fresh' (Kd.R_lt (rr_ HO_21)) k_ hk, Kd.fresh' (Kd.R_lt (rr_ HO889)) k_ hk, Kd.fresh' (Kd.R_lt (rr_ HO892)) k_ hk, Kd.freshB (kk_ BK869) k_ hk, Kd.freshB (kk_ BK899) k_ hk⟩)); (case aO => exact (by (with_reducible repeat (first | apply Kd.N_alloc | apply Kd.N_drewN | apply Kd.N_drew)); exact Kd.N_mono HO_5.out (fun _ hk => ⟨hk.1.1.1.1.1.1, ⟨hk.1.1.1.1.1.2.1, ⟨hk.1.1.1.1.1.2.2.1, ⟨hk.1.1.1.1.2, ⟨hk.1.1.1.2, ⟨hk.1.1.1.1.1.2.2.2, hk.2⟩⟩⟩⟩⟩⟩))); (case aS => exact (bF_ hB_)); (case aL => have := LMc26.out; omega); intro v902 w42 ho hb hg hat; rw [← Ny901.out] at ho; replace HO_6 := A_ (Kd.R_over' (rr_ HO_6) (Kd.N_typed (by (with_reducible repeat (first | apply Kd.N_alloc | apply Kd.N_drewN | apply Kd.N_drew)); exact HO_5.out)) (by decide) hg); replace HO_21 := A_ (Kd.R_over' (rr_ HO_21) (Kd.N_typed (by (with_reducible repeat (first | apply Kd.N_alloc | apply Kd.N_drewN | apply Kd.N_drew)); exact HO_5.out)) (by decide) hg); replace BK869 := A_ (blk_grown (kk_ BK869) hg (Kd.N_away HO_5.out (fun _ hk => hk.1.1.1.1.1.2.2.2))); replace HL886_0 := A_ (Kd.V_afterv (ok := (fun k_ => (w.heap.size ≤ k_) ∧ some k_ ≠ (u6 : Value).ownBlock ∧ some k_ ≠ (.slice (some ad885) y882.length co16 : Value).ownBlock ∧ some k_ ≠ (.slice Ao32 t887.length co32 : Value).ownBlock ∧ some k_ ≠ (.slice Ao33 t890.length co33 : Value).ownBlock ∧ some k_ ≠ (.slice Ao36 t893.length co36 : Value).ownBlock ∧ some k_ ≠ (.slice Ao39 t896.length co39 : Value).ownBlock ∧ k_ ≠ gb869 ∧ k_ ≠ gb899)) (by (with_reducible repeat (first | apply Kd.V_alloc | apply Kd.V_drewN | apply Kd.V_drew)); exact Kd.V_mono HL886_0.out (fun _ hk => ⟨⟨hk.1.1.1.1.1.1.1, ⟨hk.1.1.1.1.1.1.2.1, ⟨hk.1.1.1.1.1.1.2.2.1, ⟨hk.1.1.1.1.2, ⟨hk.1.1.1.2, ⟨hk.1.1.2, ⟨hk.1.2, ⟨hk.1.1.1.1.1.1.2.2.2, hk.2⟩⟩⟩⟩⟩⟩⟩⟩, hk.1.1.1.1.1.2⟩)) hg hat); replace HL886_1 := A_ (Kd.V_afterv (ok := (fun k_ => (w.heap.size ≤ k_) ∧ some k_ ≠ (u6 : Value).ownBlock ∧ some k_ ≠ (.slice (some ad885) y882.length co16 : Value).ownBlock ∧ some k_ ≠ (.slice Ao32 t887.length co32 : Value).ownBlock ∧ some k_ ≠ (.slice Ao33 t890.length co33 : Value).ownBlock ∧ some k_ ≠ (.slice Ao36 t893.length co36 : Value).ownBlock ∧ some k_ ≠ (.slice Ao39 t896.length co39 : Value).ownBlock ∧ k_ ≠ gb869 ∧ k_ ≠ gb899)) (by (with_reducible repeat (first | apply Kd.V_alloc | apply Kd.V_drewN | apply Kd.V_drew)); exact Kd.V_mono HL886_1.out (fun _ hk => ⟨⟨hk.1.1.1.1.1.1.1, ⟨hk.1.1.1.1.1.1.2.1, ⟨hk.1.1.1.1.1.1.2.2.1, ⟨hk.1.1.1.1.2, ⟨hk.1.1.1.2, ⟨hk.1.1.2, ⟨hk.1.2, ⟨hk.1.1.1.1.1.1.2.2.2, hk.2⟩⟩⟩⟩⟩⟩⟩⟩, hk.1.1.1.1.1.2⟩)) hg hat); replace HO889 := A_ (Kd.R_over' (rr_ HO889) (Kd.N_typed (by (with_reducible repeat (first | apply Kd.N_alloc | apply Kd.N_drewN | apply Kd.N_drew)); exact HO_5.out)) (by decide) hg); replace HO892 := A_ (Kd.R_over' (rr_ HO892) (Kd.N_typed (by (with_reducible repeat (first | apply Kd.N_alloc | apply Kd.N_drewN | apply Kd.N_drew)); exact HO_5.out)) (by decide) hg); replace BK899 := A_ (blk_grown (kk_ BK899) hg (Kd.N_away HO_5.out (fun _ hk => hk.2))); replace HB := A_ hb; have HO903 := A_ ho; clear HO_5 HO895 HO898; clear ho hb hg hat; obtain ⟨Ao43, co43, eo43⟩ := Kd.R_slice HO_6.out; subst eo43; have p904 : 0 ≤ (x7_1 : Int) := oB_ qe_; have q904 : x7_1 < (x6_2.length : Int) := oB_ qe_; obtain ⟨ad904, e904, hx904_0⟩ := Kd.at_string (Kd.R_reads' HO_6.out).2.2 x7_1 p904 q904; cases e904; replace p904 := eq_true p904; replace q904 := eq_true q904))
        replace HO_6 := A_ (rC_ HO_6.out)
        replace HO_21 := A_ (rC_ HO_21.out)
        replace HL886_0 := A_ (Kd.V_drew HL886_0.out)
        replace HL886_1 := A_ (Kd.V_drew HL886_1.out)
        replace HO889 := A_ (rC_ HO889.out)
        replace HO892 := A_ (rC_ HO892.out)
        replace HO903 := A_ (Kd.N_drew HO903.out)
        replace BK869 := A_ (kB_ BK869.out)
        replace BK899 := A_ (kB_ BK899.out)
        replace HB := A_ (bC_ HB.out)
        have hx_ : w42.drew.cell? (ad904.add (x7_1).toNat) = some (.string (rdOf ByteArray.empty x6_2 x7_1)) := hx904_0
        refine start_ (n := 12) (S := fun w' => w'.cell? (ad904.add (x7_1).toNat) = some (.string (rdOf ByteArray.empty x6_2 x7_1))) (ds := [10]) (bl_ 12 0) (by kernel_rfl) rfl (by kernel_rfl) hx_ (fun hHeld => ?_); refine with_tabW Z52.tab12 Z52.bits12 (fun HT_ HW_ => ?_)
        generalize w42.drew = w44 at HO_6 HO_21 HL886_0 HL886_1 HO889 HO892 HO903 BK869 BK899 HB hHeld ⊢
        refine pu_ 0 (some 42) (bl_ 12 1) HT_ ?_
        refine pu_ 1 (some 43) (bl_ 12 3) HT_ ?_
        refine pu_ 2 (some 44) (bl_ 12 7) HT_ ?_
        refine pu_ 3 (some 45) (bl_ 12 15) HT_ ?_
        refine ta_ 4 (some 46) (bl_ 12 31) HT_ HW_ hHeld ?_
        refine pu_ 5 (some 47) (bl_ 12 63) HT_ ?_
        refine on_ 6 (some 48) (bl_ 12 127) HT_ (fun K hK => ?_)
        refine Kd.R_lit_step (Kd.int .u8) _ 5 ?hg (N := 48) ?hd (xs := ([rd y882 x23_2] : List Int)) (inner := [.int .u8 (rd y882 x23_2)]) (ok := fun _ => True) (okp := fun _ => True) ?hr ?hp (fun _ hk => hk) trivial (Below.refl _ _) (nA_ _) (by simp) ?_; (case hd => rfl); (case hg => rfl); (case hr => first | (go_simp; done) | (go_simp; rfl)); (case hp => exact (Reps.one (show Kd.M (Kd.int .u8) _ _ _ (rd y882 x23_2) [.int .u8 (rd y882 x23_2)] from rfl) (Reps.none _ _)))
        intro v906 w45 ho46 hb hg_ hnew_
        have hS1_ := (hb.cell (World.block_lt_of_cell? _ _ hHeld)).trans hHeld
        clear hg_ hnew_
        (first | rw [← Ny905.out] at ho46 | (simp only [Int.reduceToNat] at ho46; rw [← Ny905.out] at ho46))
        replace HO_6 := rb_ HO_6 hb
        replace HL886_0 := A_ (Kd.V_elder' (by (with_reducible repeat (first | apply Kd.V_alloc | apply Kd.V_drewN | apply Kd.V_drew)); exact HL886_0.out) (Kd.R_base ho46) hb)
        replace HL886_1 := A_ (Kd.V_elder' (by (with_reducible repeat (first | apply Kd.V_alloc | apply Kd.V_drewN | apply Kd.V_drew)); exact HL886_1.out) (Kd.R_base ho46) hb)
        replace HO889 := rb_ HO889 hb
        replace HO892 := rb_ HO892 hb
        replace HO903 := A_ (Kd.N_elder' (by (with_reducible repeat (first | apply Kd.N_alloc | apply Kd.N_drewN | apply Kd.N_drew)); exact HO903.out) (Kd.R_base ho46) hb)
        have HO907 := A_ (rE_ (Kd.R_new' (Kd.R_newM (M := fun k_ => (w.heap.size ≤ k_)) ho46 (bF_ hB_) (fun k_ h_ => h_)) (Kd.R_lt (rr_ HO_21))) (bF_ hB_))
        replace HO_21 := A_ (Kd.R_elder' (rr_ HO_21) (Kd.R_base ho46) hb)
        replace BK869 := bb_ BK869 hb
        replace BK899 := bb_ BK899 hb
        replace HB := b1_ hb
        clear hb ho46
        refine hK.out _ _ hS1_ (fun hHeld => ?_)
        clear hK K
        refine no_ (some 48) ?_
        refine on_ 7 (some 49) (bl_ 12 255) HT_ (fun K hK => ?_)
        have hcv47 := own_string (P := Try.prog) Try.underlying22 Try.underlying5 Try.underlying9 (Kd.own_of_R HO907.out)
        refine value_ (w1 := ?_) (v := ?_) (by rfl) rfl ?_ ?_
        rotate_left 2
        ·go_simp
         constructor
         ·rfl
         ·rfl
        clear hcv47
        refine hK.out _ _ hHeld (fun hHeld => ?_)
        clear hK K
        refine no_ (some 49) ?_
        refine pu_ 8 (some 50) (bl_ 12 511) HT_ ?_
        refine on_ 9 (some 51) (bl_ 12 1023) HT_ (fun K hK => ?_)
        refine value_ (w1 := ?_) (v := ?_) (by rfl) rfl ?_ ?_
        rotate_left 2
        ·go_simp
         constructor
         ·rfl
         ·rfl
        refine hK.out _ _ (by first | exact hHeld | exact ((bA_ (Below.refl _ _) _).cell (World.block_lt_of_cell? _ _ hHeld)).trans hHeld) (fun hHeld => ?_)
        clear hK K
        refine no_ (some 51) ?_
        refine last_ (i := 10) (N := some 52) (bl_ 12 2047) rfl rfl (one_of HT_.out (by kernel_rfl)) (by decide) (fun K hK => ?_)
        refine Kd.R_append_step Kd.string (w0 := w) w.heap.size (by rfl) (.tmp 42) (.tmp 51) 53 9 (.string ⟨#[]⟩) 16 rfl Try.underlying53 info9 rfl (by decide) (by omega) (.slice (some ad904) x6_2.length co43) x6_2 ((rdOf ByteArray.empty x6_2 x7_1) ++ (strOfNums y905)) [.string ((rdOf ByteArray.empty x6_2 x7_1) ++ (strOfNums y905))] (fun k_ => (w.heap.size ≤ k_)) (fun _ => False) rfl rfl ?aP (fun _ hk => hk.elim) ?aF ?aO ?aB ?aS ?aL ?_
        (case aP => exact rfl)
        (case aB => exact hB_)
        (case aF => exact (fun k_ hk => (Nat.le_trans (bF_ hB_) hk)))
        (case aO => exact (rr_ HO_6))
        (case aS => exact (bF_ hB_))
        (case aL => have := LMc29.out; omega)
        intro v909 w48 ho hb hg hat
        rw [← Ny908.out] at ho
        replace HO_21 := A_ (Kd.R_over' (rr_ HO_21) (Kd.R_typed (rr_ HO_6)) (by decide) hg)
        replace BK869 := A_ (blk_grown (kk_ BK869) hg (Kd.R_ne HO_6.out BK869.out (by decide)))
        replace HL886_0 := A_ (Kd.V_afterv (ok := (fun k_ => (w.heap.size ≤ k_) ∧ some k_ ≠ (.slice (some ad885) y882.length co16 : Value).ownBlock ∧ some k_ ≠ (.slice Ao32 t887.length co32 : Value).ownBlock ∧ some k_ ≠ (.slice Ao33 t890.length co33 : Value).ownBlock ∧ some k_ ≠ (v902 : Value).ownBlock ∧ some k_ ≠ (v906 : Value).ownBlock ∧ k_ ≠ gb869 ∧ k_ ≠ gb899)) (by (with_reducible repeat (first | apply Kd.V_alloc | apply Kd.V_drewN | apply Kd.V_drew)); exact Kd.V_mono HL886_0.out (fun _ hk => ⟨⟨hk.1.1.1, ⟨hk.1.1.2.2.1, ⟨hk.1.1.2.2.2.1, ⟨hk.1.1.2.2.2.2.1, ⟨hk.1.2, ⟨hk.2, ⟨hk.1.1.2.2.2.2.2.2.2.1, hk.1.1.2.2.2.2.2.2.2.2⟩⟩⟩⟩⟩⟩⟩, hk.1.1.2.1⟩)) hg hat)
        replace HL886_1 := A_ (Kd.V_afterv (ok := (fun k_ => (w.heap.size ≤ k_) ∧ some k_ ≠ (.slice (some ad885) y882.length co16 : Value).ownBlock ∧ some k_ ≠ (.slice Ao32 t887.length co32 : Value).ownBlock ∧ some k_ ≠ (.slice Ao33 t890.length co33 : Value).ownBlock ∧ some k_ ≠ (v902 : Value).ownBlock ∧ some k_ ≠ (v906 : Value).ownBlock ∧ k_ ≠ gb869 ∧ k_ ≠ gb899)) (by (with_reducible repeat (first | apply Kd.V_alloc | apply Kd.V_drewN | apply Kd.V_drew)); exact Kd.V_mono HL886_1.out (fun _ hk => ⟨⟨hk.1.1.1, ⟨hk.1.1.2.2.1, ⟨hk.1.1.2.2.2.1, ⟨hk.1.1.2.2.2.2.1, ⟨hk.1.2, ⟨hk.2, ⟨hk.1.1.2.2.2.2.2.2.2.1, hk.1.1.2.2.2.2.2.2.2.2⟩⟩⟩⟩⟩⟩⟩, hk.1.1.2.1⟩)) hg hat)
        replace HO889 := A_ (Kd.R_over' (rr_ HO889) (Kd.R_typed (rr_ HO_6)) (by decide) hg)
        replace HO892 := A_ (Kd.R_over' (rr_ HO892) (Kd.R_typed (rr_ HO_6)) (by decide) hg)
        replace BK899 := A_ (blk_grown (kk_ BK899) hg (Kd.R_ne HO_6.out BK899.out (by decide)))
        replace HO903 := A_ (Kd.N_afterv (ok := (fun k_ => (w.heap.size ≤ k_) ∧ some k_ ≠ (.slice (some ad885) y882.length co16 : Value).ownBlock ∧ some k_ ≠ (.slice Ao32 t887.length co32 : Value).ownBlock ∧ some k_ ≠ (.slice Ao33 t890.length co33 : Value).ownBlock ∧ some k_ ≠ (v906 : Value).ownBlock ∧ k_ ≠ gb869 ∧ k_ ≠ gb899)) (by (with_reducible repeat (first | apply Kd.N_alloc | apply Kd.N_drewN | apply Kd.N_drew)); exact Kd.N_mono HO903.out (fun _ hk => ⟨⟨hk.1.1, ⟨hk.1.2.2.1, ⟨hk.1.2.2.2.1, ⟨hk.1.2.2.2.2.1, ⟨hk.2, ⟨hk.1.2.2.2.2.2.1, hk.1.2.2.2.2.2.2⟩⟩⟩⟩⟩⟩, hk.1.2.1⟩)) hg hat)
        replace HO907 := A_ (Kd.R_over' (rr_ HO907) (Kd.R_typed (rr_ HO_6)) (by decide) hg)
        replace HB := A_ hb
        have HO910 := A_ ho
        clear HO_6
        clear ho hb hg hat
        refine hK.out _ _ ?_
        clear hK K
        refine no_ (some 52) ?_
        refine pu_ 11 (some 6) (bl_ 12 4095) HT_ ?_
        refine done_ (done_of HT_.out (by kernel_rfl)) ?_
        try go_wp2
        go_roundg k2
        case measure => have := HK1.out; have := HK2.out; omega
        case rel => exact ⟨(y901), (y908), (wrap64 (x23_2 + 1)), qc_, H', ⟨by have := HK1.out; have := HK2.out; omega⟩, ⟨by (with_reducible repeat (first | apply Kd.N_alloc | apply Kd.N_drewN | apply Kd.N_drew)); exact Kd.N_mono HO903.out (fun _ hk => ⟨hk.1.1, ⟨hk.2, ⟨hk.1.2.1, hk.1.2.2.2.2.2.1⟩⟩⟩)⟩, ⟨(rr_ HO910)⟩, ⟨(rw_ (Kd.R_mono HO_21.out (fun _ hk => hk.1)))⟩, ⟨(kk_ BK869)⟩, ⟨hB_⟩⟩
       ·rw [if_neg c25] at H
        have c25b0 := oD_ c25
        clear c25
        have H' := A_ H
        clear H
        have p885 : 0 ≤ (x23_2 : Int) := oB_ qe_
        have q885 : x23_2 < (y882.length : Int) := oB_ qe_
        obtain ⟨ad885, e885, hx885_0⟩ := Kd.at_int (Kd.R_reads' HO_21.out).2.2 x23_2 p885 q885
        cases e885
        replace p885 := eq_true p885
        replace q885 := eq_true q885
        obtain ⟨Ao49, co49, eo49⟩ := Kd.N_slice HO_5.out
        subst eo49
        have p886 : 0 ≤ (x7_1 : Int) := oB_ qe_
        have q886 : x7_1 < (x5_2.length : Int) := oB_ qe_
        obtain ⟨ad886, A886_0, c886_0, A886_1, c886_1, e886, hx886_0, hx886_1, hl886_0, hi886_0, hl886_1, hi886_1⟩ := at_T25 (Kd.N_reads' HO_5.out).2.2 x7_1 p886 q886
        cases e886
        obtain ⟨ce886, hce886, hMe886, hcc886⟩ := Kd.N_get HO_5.out z25 x7_1 p886 (by first | exact q886 | exact oB_ qe_ | (have e_ := (Kd.N_reads' HO_5.out).1; omega))
        obtain ⟨ua886_0, uc886_0, ua886_1, uc886_1, rfl, ul886_0, ge886_0, ul886_1, ge886_1⟩ := k25_openF hMe886
        have hv886_0 := hcc886 0 _ rfl
        rw [Nat.add_zero] at hv886_0
        replace hv886_0 := Option.some.inj (hv886_0.symm.trans hx886_0)
        injection hv886_0 with hva_ hvn_ hvc_
        rw [hva_] at ge886_0
        rw [hvc_] at ul886_0
        have HL886_0 := A_ (show Kd.V (Kd.int .i64) 3 _ w.heap.size _ _ ((rd_T25 x5_2 x7_1).f0) from Kd.V_mk ul886_0 ge886_0)
        clear hva_ hvn_ hvc_ ge886_0 ul886_0
        have hv886_1 := hcc886 1 _ rfl
        rw [add_field _ _ 1 (by omega)] at hv886_1
        replace hv886_1 := Option.some.inj (hv886_1.symm.trans hx886_1)
        injection hv886_1 with hva_ hvn_ hvc_
        rw [hva_] at ge886_1
        rw [hvc_] at ul886_1
        have HL886_1 := A_ (show Kd.V (Kd.int .i64) 3 _ w.heap.size _ _ ((rd_T25 x5_2 x7_1).f1) from Kd.V_mk ul886_1 ge886_1)
        clear hva_ hvn_ hvc_ ge886_1 ul886_1
        clear hcc886 hce886
        have HR886_0 := A_ hi886_0
        have HC886_0 := A_ hl886_0
        clear hi886_0 hl886_0
        have HR886_1 := A_ hi886_1
        have HC886_1 := A_ hl886_1
        clear hi886_1 hl886_1
        replace p886 := eq_true p886
        replace q886 := eq_true q886
        go_wp2_with (first | ((with_reducible refine gA_ (f := 87) rfl ?_); refine gL_ (some 32) Try.func87 #[.agg #[.slice A886_0 ((rd_T25 x5_2 x7_1).f0).length c886_0, .slice A886_1 ((rd_T25 x5_2 x7_1).f1).length c886_1], .int .u8 (rd y882 x23_2)] rfl qa_ ?_; (with_reducible refine (Z41.calls k2 _ _ ((rd_T25 x5_2 x7_1).f0) _ _ ((rd_T25 x5_2 x7_1).f1) (rd y882 x23_2) t887 t890 _ ?side1 ?side2 ?side3 ?side4 A22.out).mono ?_); (case side1 => repeat (first | exact (by repeat (first | (with_reducible exact HR886_0.out) | (with_reducible refine cA_ ?_ _) | (with_reducible refine cB_ ?_ _) | (with_reducible refine cC_ ?_) | exact HR886_0.out)) | (with_reducible first | refine cA_ ?_ _ | refine cB_ ?_ _ | refine cC_ ?_))); (case side2 => exact HC886_0.out); (case side3 => repeat (first | exact (by repeat (first | (with_reducible exact HR886_1.out) | (with_reducible refine cA_ ?_ _) | (with_reducible refine cB_ ?_ _) | (with_reducible refine cC_ ?_) | exact HR886_1.out)) | (with_reducible first | refine cA_ ?_ _ | refine cB_ ?_ _ | refine cC_ ?_))); (case side4 => exact HC886_1.out); rintro e w50 ⟨v888, v891, rfl, ho0, ho1, hb⟩; refine ⟨_, rfl, ?_⟩; replace HO_5 := A_ (Kd.N_mono (Kd.N_told (Kd.N_told (Kd.N_old (by (with_reducible repeat (first | apply Kd.N_alloc | apply Kd.N_drewN | apply Kd.N_drew)); exact HO_5.out) hb) (Kd.R_base ho0)) (Kd.R_base ho1)) (fun _ h_ => h_.1)); replace HO_6 := rb_ HO_6 hb; replace HO_21 := rb_ HO_21 hb; replace HL886_0 := A_ (Kd.V_mono (Kd.V_told (Kd.V_told (Kd.V_old (by (with_reducible repeat (first | apply Kd.V_alloc | apply Kd.V_drewN | apply Kd.V_drew)); exact HL886_0.out) hb) (Kd.R_base ho0)) (Kd.R_base ho1)) (fun _ h_ => h_.1)); replace HL886_1 := A_ (Kd.V_mono (Kd.V_told (Kd.V_told (Kd.V_old (by (with_reducible repeat (first | apply Kd.V_alloc | apply Kd.V_drewN | apply Kd.V_drew)); exact HL886_1.out) hb) (Kd.R_base ho0)) (Kd.R_base ho1)) (fun _ h_ => h_.1)); have HO889 := A_ (rE_ (Kd.R_newM (M := fun k_ => (w.heap.size ≤ k_)) ho0 (bF_ hB_) (fun k_ h_ => h_)) (bF_ hB_)); have HO892 := A_ (rE_ (Kd.R_newM (M := fun k_ => (w.heap.size ≤ k_)) ho1 (bF_ hB_) (fun k_ h_ => h_)) (bF_ hB_)); replace BK869 := bb_ BK869 hb; replace HR886_0 := A_ (cD_ (by repeat (first | (with_reducible exact HR886_0.out) | (with_reducible refine cA_ ?_ _) | (with_reducible refine cB_ ?_ _) | (with_reducible refine cC_ ?_) | exact HR886_0.out)) hb); replace HR886_1 := A_ (cD_ (by repeat (first | (with_reducible exact HR886_1.out) | (with_reducible refine cA_ ?_ _) | (with_reducible refine cB_ ?_ _) | (with_reducible refine cC_ ?_) | exact HR886_1.out)) hb); replace HB := b1_ hb; clear hb ho0 ho1; obtain ⟨Ao51, co51, eo51⟩ := Kd.R_slice HO889.out; subst eo51; obtain ⟨Ao52, co52, eo52⟩ := Kd.R_slice HO892.out; subst eo52) | ((with_reducible refine gA_ (f := 82) rfl ?_); refine gL_ (some 33) Try.func82 #[.agg #[.slice Ao51 t887.length co51, .slice Ao52 t890.length co52]] rfl qa_ ?_; (with_reducible refine (Z49.calls k2 _ _ t887 _ _ t890 t893 t896 _ (cr_ HO889) ((Kd.R_reads' HO889.out).2.1) (cr_ HO892) ((Kd.R_reads' HO892.out).2.1) A23.out).mono ?_); rintro e w53 ⟨v894, v897, rfl, ho0, ho1, hb⟩; refine ⟨_, rfl, ?_⟩; replace HO_5 := A_ (Kd.N_mono (Kd.N_told (Kd.N_told (Kd.N_old (by (with_reducible repeat (first | apply Kd.N_alloc | apply Kd.N_drewN | apply Kd.N_drew)); exact HO_5.out) hb) (Kd.R_base ho0)) (Kd.R_base ho1)) (fun _ h_ => h_.1)); replace HO_6 := rb_ HO_6 hb; replace HO_21 := rb_ HO_21 hb; replace HL886_0 := A_ (Kd.V_mono (Kd.V_told (Kd.V_told (Kd.V_old (by (with_reducible repeat (first | apply Kd.V_alloc | apply Kd.V_drewN | apply Kd.V_drew)); exact HL886_0.out) hb) (Kd.R_base ho0)) (Kd.R_base ho1)) (fun _ h_ => h_.1)); replace HL886_1 := A_ (Kd.V_mono (Kd.V_told (Kd.V_told (Kd.V_old (by (with_reducible repeat (first | apply Kd.V_alloc | apply Kd.V_drewN | apply Kd.V_drew)); exact HL886_1.out) hb) (Kd.R_base ho0)) (Kd.R_base ho1)) (fun _ h_ => h_.1)); have HO895 := A_ (rE_ (Kd.R_new' (Kd.R_new' (Kd.R_newM (M := fun k_ => (w.heap.size ≤ k_)) ho0 (bF_ hB_) (fun k_ h_ => h_)) (Kd.R_lt (rr_ HO889))) (Kd.R_lt (rr_ HO892))) (bF_ hB_)); have HO898 := A_ (rE_ (Kd.R_new' (Kd.R_new' (Kd.R_newM (M := fun k_ => (w.heap.size ≤ k_)) ho1 (bF_ hB_) (fun k_ h_ => h_)) (Kd.R_lt (rr_ HO889))) (Kd.R_lt (rr_ HO892))) (bF_ hB_)); replace HO889 := A_ (Kd.R_mono (Kd.R_told (Kd.R_told (Kd.R_old (rr_ HO889) hb) (Kd.R_base ho0)) (Kd.R_base ho1)) (fun _ h_ => h_.1)); replace HO892 := A_ (Kd.R_mono (Kd.R_told (Kd.R_told (Kd.R_old (rr_ HO892) hb) (Kd.R_base ho0)) (Kd.R_base ho1)) (fun _ h_ => h_.1)); replace BK869 := bb_ BK869 hb; replace HR886_0 := A_ (cD_ (by repeat (first | (with_reducible exact HR886_0.out) | (with_reducible refine cA_ ?_ _) | (with_reducible refine cB_ ?_ _) | (with_reducible refine cC_ ?_) | exact HR886_0.out)) hb); replace HR886_1 := A_ (cD_ (by repeat (first | (with_reducible exact HR886_1.out) | (with_reducible refine cA_ ?_ _) | (with_reducible refine cB_ ?_ _) | (with_reducible refine cC_ ?_) | exact HR886_1.out)) hb); replace HB := b1_ hb; clear hb ho0 ho1) | ((with_reducible refine gB_ (N := 10) rfl ?_); refine bx_ 10 #[.slice none 0 0, .slice none 0 0] 25 ?_; intro gb899 hg w54 hbox hb; replace HO_5 := A_ (Kd.N_below (Kd.N_elderB (by (with_reducible repeat (first | apply Kd.N_alloc | apply Kd.N_drewN | apply Kd.N_drew)); exact HO_5.out) gb899 (Nat.le_of_eq hg.symm)) hb); replace HO_6 := rb_ HO_6 hb; replace HO_21 := rb_ HO_21 hb; replace HL886_0 := A_ (Kd.V_below (Kd.V_elderB (by (with_reducible repeat (first | apply Kd.V_alloc | apply Kd.V_drewN | apply Kd.V_drew)); exact HL886_0.out) gb899 (Nat.le_of_eq hg.symm)) hb); replace HL886_1 := A_ (Kd.V_below (Kd.V_elderB (by (with_reducible repeat (first | apply Kd.V_alloc | apply Kd.V_drewN | apply Kd.V_drew)); exact HL886_1.out) gb899 (Nat.le_of_eq hg.symm)) hb); replace HO889 := rb_ HO889 hb; replace HO892 := rb_ HO892 hb; replace HO895 := rb_ HO895 hb; replace HO898 := rb_ HO898 hb; replace HR886_0 := A_ (cD_ (by repeat (first | (with_reducible exact HR886_0.out) | (with_reducible refine cA_ ?_ _) | (with_reducible refine cB_ ?_ _) | (with_reducible refine cC_ ?_) | exact HR886_0.out)) hb); replace HR886_1 := A_ (cD_ (by repeat (first | (with_reducible exact HR886_1.out) | (with_reducible refine cA_ ?_ _) | (with_reducible refine cB_ ?_ _) | (with_reducible refine cC_ ?_) | exact HR886_1.out)) hb); have BK899 := A_ hbox; have GW899 := gw_ w hg; have GE899 := GW899; replace HB := b1_ hb; have NB869_899 := gN_ BK869 hg; have NB899_869 := gP_ BK869 hg; replace BK869 := bb_ BK869 hb; clear hb hbox hg; obtain ⟨Ao55, co55, eo55⟩ := Kd.R_slice HO895.out; subst eo55; have hnb56 := NB899_869.out; have hnc56 := NB869_899.out; obtain ⟨hcz57_0, hcz57_1, hfz57_0, hfz57_1⟩ := c2_ BK899; obtain ⟨Ao58, co58, eo58⟩ := Kd.R_slice HO898.out; subst eo58) | ((with_reducible refine gA_ (f := 81) rfl ?_); refine gL_ (some 36) Try.func81 #[.slice (some ad886) x5_2.length co49, .agg #[.slice Ao55 t893.length co55, .slice Ao58 t896.length co58]] rfl qa_ ?_; (with_reducible refine (Z61.calls k2 _ _ x5_2 _ _ t893 _ _ t896 t900 _ ?side1 ?side2 ?side3 ?side4 ?side5 ?side6 A24.out).mono ?_); (case side1 => refine (Kd.N_reads' (e := 25) (base := w.heap.size) (ok := fun k_ => (((((((w.heap.size ≤ k_) ∧ (some k_ ≠ (u6 : Value).ownBlock ∧ (some k_ ≠ (.slice (some ad885) y882.length co16 : Value).ownBlock ∧ k_ ≠ gb869))) ∧ some k_ ≠ (.slice Ao51 t887.length co51 : Value).ownBlock) ∧ some k_ ≠ (.slice Ao52 t890.length co52 : Value).ownBlock) ∧ some k_ ≠ (.slice Ao55 t893.length co55 : Value).ownBlock) ∧ some k_ ≠ (.slice Ao58 t896.length co58 : Value).ownBlock) ∧ k_ ≠ gb899)) (n := x5_2.length) (c := co49) ?_).2.2; exact (by (with_reducible repeat (first | apply Kd.N_alloc | apply Kd.N_drewN | apply Kd.N_drew)); exact (Kd.N_mono (Kd.N_far (p := ⟨gb899, 1, none⟩) (Kd.N_far (p := ⟨gb899, 0, none⟩) (Kd.N_mono HO_5.out (fun k_ hk => (⟨hk, hk.2⟩ : _ ∧ k_ ≠ gb899))) (fun _ hk => hk.2) (.slice Ao55 t893.length co55)) (fun _ hk => hk.2) (.slice Ao58 t896.length co58)) (fun _ h_ => h_.1)))); (case side2 => exact (Kd.N_reads' HO_5.out).2.1); (case side3 => refine (Kd.R_reads' (e := 3) (base := w.heap.size) (ok := fun k_ => ((((w.heap.size ≤ k_) ∧ some k_ ≠ (.slice Ao58 t896.length co58 : Value).ownBlock) ∧ some k_ ≠ (.slice Ao51 t887.length co51 : Value).ownBlock) ∧ some k_ ≠ (.slice Ao52 t890.length co52 : Value).ownBlock)) (n := t893.length) (c := co55) ?_).2.2; exact (rw_ (fa_ HO895 BK899))); (case side4 => exact (Kd.R_reads' HO895.out).2.1); (case side5 => refine (Kd.R_reads' (e := 3) (base := w.heap.size) (ok := fun k_ => ((((w.heap.size ≤ k_) ∧ some k_ ≠ (.slice Ao55 t893.length co55 : Value).ownBlock) ∧ some k_ ≠ (.slice Ao51 t887.length co51 : Value).ownBlock) ∧ some k_ ≠ (.slice Ao52 t890.length co52 : Value).ownBlock)) (n := t896.length) (c := co58) ?_).2.2; exact (rw_ (fa_ HO898 BK899))); (case side6 => exact (Kd.R_reads' HO898.out).2.1); rintro e w59 ⟨rfl, hb⟩; refine ⟨_, rfl, ?_⟩; replace HO_5 := A_ (Kd.N_below (by (with_reducible repeat (first | apply Kd.N_alloc | apply Kd.N_drewN | apply Kd.N_drew)); exact (Kd.N_mono (Kd.N_far (p := ⟨gb899, 1, none⟩) (Kd.N_far (p := ⟨gb899, 0, none⟩) (Kd.N_mono HO_5.out (fun k_ hk => (⟨hk, hk.2⟩ : _ ∧ k_ ≠ gb899))) (fun _ hk => hk.2) (.slice Ao55 t893.length co55)) (fun _ hk => hk.2) (.slice Ao58 t896.length co58)) (fun _ h_ => h_.1))) hb); replace HO_6 := A_ (rD_ (rw_ (fa_ HO_6 BK899)) hb); replace HO_21 := A_ (rD_ (rw_ (fa_ HO_21 BK899)) hb); replace HO889 := A_ (rD_ (rw_ (fa_ HO889 BK899)) hb); replace HO892 := A_ (rD_ (rw_ (fa_ HO892 BK899)) hb); replace HO895 := A_ (rD_ (rw_ (fa_ HO895 BK899)) hb); replace HO898 := A_ (rD_ (rw_ (fa_ HO898 BK899)) hb); replace BK869 := A_ (kE_ (g := gb869) (o := .cells #[.slice A0_0 l0_0.length c0_0, .slice A0_1 l0_1.length c0_1] 25 (0, 0)) (by (with_reducible repeat (first | refine kA_ ?_ _ | refine kB_ ?_ | refine kC_ ?_ _)); refine blk_far ?_ NB869_899.out _; (with_reducible repeat (first | refine kA_ ?_ _ | refine kB_ ?_ | refine kC_ ?_ _)); refine blk_far ?_ NB869_899.out _; (with_reducible repeat (first | refine kA_ ?_ _ | refine kB_ ?_ | refine kC_ ?_ _)); exact BK869.out) hb); replace HR886_0 := A_ (cD_ ((Kd.V_reads' (by (with_reducible repeat (first | apply Kd.V_alloc | apply Kd.V_drewN | apply Kd.V_drew)); exact (Kd.V_mono (Kd.V_far (p := ⟨gb899, 1, none⟩) (Kd.V_far (p := ⟨gb899, 0, none⟩) (Kd.V_mono HL886_0.out (fun k_ hk => (⟨hk, hk.2⟩ : _ ∧ k_ ≠ gb899))) (fun _ hk => hk.2) (.slice Ao55 t893.length co55)) (fun _ hk => hk.2) (.slice Ao58 t896.length co58)) (fun _ h_ => h_.1)))).2.2) hb); replace HL886_0 := A_ (Kd.V_below (by (with_reducible repeat (first | apply Kd.V_alloc | apply Kd.V_drewN | apply Kd.V_drew)); exact (Kd.V_mono (Kd.V_far (p := ⟨gb899, 1, none⟩) (Kd.V_far (p := ⟨gb899, 0, none⟩) (Kd.V_mono HL886_0.out (fun k_ hk => (⟨hk, hk.2⟩ : _ ∧ k_ ≠ gb899))) (fun _ hk => hk.2) (.slice Ao55 t893.length co55)) (fun _ hk => hk.2) (.slice Ao58 t896.length co58)) (fun _ h_ => h_.1))) hb); replace HR886_1 := A_ (cD_ ((Kd.V_reads' (by (with_reducible repeat (first | apply Kd.V_alloc | apply Kd.V_drewN | apply Kd.V_drew)); exact (Kd.V_mono (Kd.V_far (p := ⟨gb899, 1, none⟩) (Kd.V_far (p := ⟨gb899, 0, none⟩) (Kd.V_mono HL886_1.out (fun k_ hk => (⟨hk, hk.2⟩ : _ ∧ k_ ≠ gb899))) (fun _ hk => hk.2) (.slice Ao55 t893.length co55)) (fun _ hk => hk.2) (.slice Ao58 t896.length co58)) (fun _ h_ => h_.1)))).2.2) hb); replace HL886_1 := A_ (Kd.V_below (by (with_reducible repeat (first | apply Kd.V_alloc | apply Kd.V_drewN | apply Kd.V_drew)); exact (Kd.V_mono (Kd.V_far (p := ⟨gb899, 1, none⟩) (Kd.V_far (p := ⟨gb899, 0, none⟩) (Kd.V_mono HL886_1.out (fun k_ hk => (⟨hk, hk.2⟩ : _ ∧ k_ ≠ gb899))) (fun _ hk => hk.2) (.slice Ao55 t893.length co55)) (fun _ hk => hk.2) (.slice Ao58 t896.length co58)) (fun _ h_ => h_.1))) hb); replace BK899 := A_ (kE_ (g := gb899) (o := .cells #[.slice Ao55 t893.length co55, .slice Ao58 t896.length co58] 25 (0, 0)) qp_ hb); replace HB := b1_ hb; clear hb))
        go_roundg k2
        case measure => have := HK1.out; have := HK2.out; omega
        case rel => exact ⟨(x5_2), (x6_2), (wrap64 (x23_2 + 1)), qc_, H', ⟨by have := HK1.out; have := HK2.out; omega⟩, ⟨by (with_reducible repeat (first | apply Kd.N_alloc | apply Kd.N_drewN | apply Kd.N_drew)); exact Kd.N_mono HO_5.out (fun _ hk => ⟨hk.1.1.1.1.1.1, ⟨hk.1.1.1.1.1.2.1, ⟨hk.1.1.1.1.1.2.2.1, hk.1.1.1.1.1.2.2.2⟩⟩⟩)⟩, ⟨(rr_ HO_6)⟩, ⟨(rr_ HO_21)⟩, ⟨(kk_ BK869)⟩, ⟨hB_⟩⟩
      ·rw [if_neg c17] at H
       have c17b0 := oD_ c17
       clear c17
       by_cases c60 : (x5_2.length : Int) > 120
       ·rw [if_pos c60] at H
        have c60b0 : decide (120 < (x5_2.length : Int)) = true := oC_ c60
        have c60b1 : decide (120 < x5_2.length) = true := oC_ (by omega)
        clear c60
        simp only [Option.some.injEq, Prod.mk.injEq] at H
        obtain ⟨rfl, rfl, rfl⟩ := H
        obtain ⟨Ao61, co61, eo61⟩ := Kd.N_slice HO_5.out
        subst eo61
        go_wp2
        go_ret3
        exact ⟨_, _, qb_, by first | exact Kd.S_nil _ _ _ _ _ | exact Kd.N_nil _ _ _ _ _ | exact Kd.V_nil _ _ _ _ _ | exact Kd.Q_nil _ _ _ _ _ | exact Kd.R_nil _ _ _ _ _, by first | exact Kd.R_nil _ _ _ _ _ | exact Kd.N_nil _ _ _ _ _ | exact Kd.V_nil _ _ _ _ _ | exact Kd.Q_nil _ _ _ _ _ | exact Kd.S_nil _ _ _ _ _, hB_⟩
       ·rw [if_neg c60] at H
        have c60b0 : decide (120 < (x5_2.length : Int)) = false := oD_ c60
        have c60b1 : decide (120 < x5_2.length) = false := oD_ (by omega)
        clear c60
        have H' := A_ H
        clear H
        obtain ⟨Ao62, co62, eo62⟩ := Kd.N_slice HO_5.out
        subst eo62
        go_wp2
        go_roundg k2
        case measure => have := HK1.out; have := HK2.out; omega
        case rel => exact ⟨(x5_2), (x6_2), (wrap64 (x7_1 + 1)), qc_, H', ⟨by have := HK1.out; have := HK2.out; omega⟩, ⟨by (with_reducible repeat (first | apply Kd.N_alloc | apply Kd.N_drewN | apply Kd.N_drew)); exact Kd.N_mono HO_5.out (fun _ hk => ⟨hk.1, ⟨hk.2.1, hk.2.2.2⟩⟩)⟩, ⟨(rr_ HO_6)⟩, ⟨(kk_ BK869)⟩, ⟨hB_⟩⟩
   ·rw [if_neg c12] at H
    have c12b0 := oD_ c12
    clear c12
    simp only [Option.some.injEq, Prod.mk.injEq] at H
    obtain ⟨rfl, rfl, rfl⟩ := H
    obtain ⟨Ao63, co63, eo63⟩ := Kd.N_slice HO_5.out
    subst eo63
    go_wp2
    go_ret3
    exact ⟨_, _, qb_, by (with_reducible repeat (first | apply Kd.N_alloc | apply Kd.N_drewN | apply Kd.N_drew)); exact Kd.N_mono HO_5.out (fun _ hk => ⟨hk.1, hk.2.1⟩), (rr_ HO_6), hB_⟩
end Go.Proofs.Ytcggfjpnfodbaaa.A
end
section
namespace Go.Proofs.Ytcggfjpnfodbaaa.A
open Go.RowKit Go.Proofs.YtcggfjpnfodbaaaW.PrintWords Go.Proofs.YtcggfjpnfodbaaaW.PrintLast Go.Proofs.YtcggfjpnfodbaaaW.PrintMore
attribute [local go_sem] max2_int min2_int max_two min_two max_three min_three max_four min_four
set_option linter.unusedVariables false
set_option linter.unusedSimpArgs false
def Z56.f (k : Nat) (l0_0 : List Int) (l0_1 : List Int) : Option ((List (S25)) × Bool) := (Z37.f k l0_0 l0_1).bind fun t912 => (if t912 = true then ((Z52.f k l0_0 l0_1).bind fun bt913 => (some (bt913.1, bt913.2.2))) else (some (([] : List (S25)), false)))
theorem Z56.mono : ∀ a0 a1 k, LeO (Z56.f k a0 a1) (Z56.f (k + 1) a0 a1) := by
 intro a0 a1 k
 unfold Z56.f
 repeat' first|exact Z37.mono _ _ _|exact Z52.mono _ _ _|exact lo_|refine LeO.ite ?_ ?_|refine LeO.bind ?_ (fun _ => ?_)
set_option maxHeartbeats 8000000 in
set_option maxRecDepth 100000 in
theorem Z56.calls (k : Nat) (A0_0 : Option Addr) (c0_0 : Nat) (l0_0 : List Int) (A0_1 : Option Addr) (c0_1 : Nat) (l0_1 : List Int) (r1 : List (S25)) (r2 : Bool) (w : World) (hr0_0 : Kd.C (Kd.int .i64) w A0_0 l0_0.length l0_0) (hc0_0 : l0_0.length ≤ c0_0) (hr0_1 : Kd.C (Kd.int .i64) w A0_1 l0_1.length l0_1) (hc0_1 : l0_1.length ≤ c0_1) (h : Z56.f k l0_0 l0_1 = some (r1, r2)) :
  Calls Try.prog 39 #[.agg #[.slice A0_0 l0_0.length c0_0, .slice A0_1 l0_1.length c0_1]] w fun e w' => ∃ v0_ : Value, e = .returned (.tuple #[v0_, .bool r2]) ∧ Kd.N k25 25 w' w.heap.size (fun k_ => (w.heap.size ≤ k_)) v0_ r1 ∧ Below w.heap.size w w' := by
 have hu25 := Try.underlying25
 have HR0_0 := A_ hr0_0
 have HC0_0 := A_ hc0_0
 clear hr0_0 hc0_0
 have HR0_1 := A_ hr0_1
 have HC0_1 := A_ hc0_1
 clear hr0_1 hc0_1
 have HB := A_ (Below.refl w.heap.size w)
 have H := h
 unfold Z56.f at H
 clear h
 obtain ⟨t912, A2, H⟩ := bi_ H
 by_cases c3 : t912 = true
 ·subst c3
  rw [if_pos rfl] at H
  obtain ⟨⟨t913, t916, t919⟩, A4, H⟩ := bi_ H
  try dsimp only at H
  simp only [Option.some.injEq, Prod.mk.injEq] at H
  obtain ⟨rfl, rfl⟩ := H
  go_enter Try.func39, Try.ntmps39
  go_wp2_with (first | ((with_reducible refine gB_ (N := 1) rfl ?_); refine bx_ 1 #[.slice A0_0 l0_0.length c0_0, .slice A0_1 l0_1.length c0_1] 25 ?_; intro gb911 hg w5 hbox hb; have BK911 := A_ hbox; have GW911 := gw_ w hg; have GE911 := GW911; replace HB := b1_ hb; clear hb hbox hg; obtain ⟨hcz6_0, hcz6_1, hfz6_0, hfz6_1⟩ := c2_ BK911) | ((with_reducible refine gA_ (f := 80) rfl ?_); refine gL_ (some 8) Try.func80 #[.agg #[.slice A0_0 l0_0.length c0_0, .slice A0_1 l0_1.length c0_1]] rfl qa_ ?_; (with_reducible refine (Z37.calls k _ _ l0_0 _ _ l0_1 true _ (cb_ HR0_0) HC0_0.out (cb_ HR0_1) HC0_1.out A2.out).mono ?_); rintro e w7 ⟨rfl, hb⟩; refine ⟨_, rfl, ?_⟩; replace BK911 := bb_ BK911 hb; replace HB := b1_ hb; clear hb; obtain ⟨hcz8_0, hcz8_1, hfz8_0, hfz8_1⟩ := c2_ BK911) | ((with_reducible refine gA_ (f := 84) rfl ?_); refine gL_ (some 12) Try.func84 #[.agg #[.slice A0_0 l0_0.length c0_0, .slice A0_1 l0_1.length c0_1]] rfl qa_ ?_; (with_reducible refine (Z52.calls k _ _ l0_0 _ _ l0_1 t913 t916 t919 _ (cb_ HR0_0) HC0_0.out (cb_ HR0_1) HC0_1.out A4.out).mono ?_); rintro e w9 ⟨v914, v917, rfl, ho0, ho1, hb⟩; refine ⟨_, rfl, ?_⟩; have HO915 := A_ (Kd.N_lower (Kd.N_mono (ok' := fun k_ => (w.heap.size ≤ k_) ∧ some k_ ≠ (v917 : Value).ownBlock ∧ k_ ≠ gb911) ho0 (fun k_ hk_ => ⟨(Nat.le_trans (bF_ hB_) hk_.1), hk_.2, (Kd.freshB (kk_ BK911) k_ hk_.1)⟩)) (bF_ hB_)); have HO918 := A_ (rE_ (Kd.R_newM (M := fun k_ => (w.heap.size ≤ k_)) (Kd.R_mono (ok' := fun k_ => True) ho1 (fun _ hk_ => trivial)) (bF_ hB_) (fun k_ h_ => h_)) (bF_ hB_)); replace BK911 := bb_ BK911 hb; replace HB := b1_ hb; clear hb ho0 ho1))
  go_ret2
  exact ⟨_, qb_, by (with_reducible repeat (first | apply Kd.N_alloc | apply Kd.N_drewN | apply Kd.N_drew)); exact Kd.N_mono HO915.out (fun _ hk => hk.1), hB_⟩
 ·replace c3 := Bool.eq_false_iff.mpr c3
  subst c3
  have H1 : (some (([] : List (S25)), false)) = some (r1, r2) := by rw [if_neg (show ¬ (false = true) by decide)] at H; exact H
  clear H
  have H := H1
  clear H1
  simp only [Option.some.injEq, Prod.mk.injEq] at H
  obtain ⟨rfl, rfl⟩ := H
  go_enter Try.func39, Try.ntmps39
  go_wp2_with (first | ((with_reducible refine gB_ (N := 1) rfl ?_); refine bx_ 1 #[.slice A0_0 l0_0.length c0_0, .slice A0_1 l0_1.length c0_1] 25 ?_; intro gb911 hg w10 hbox hb; have BK911 := A_ hbox; have GW911 := gw_ w hg; have GE911 := GW911; replace HB := b1_ hb; clear hb hbox hg; obtain ⟨hcz11_0, hcz11_1, hfz11_0, hfz11_1⟩ := c2_ BK911) | ((with_reducible refine gA_ (f := 80) rfl ?_); refine gL_ (some 8) Try.func80 #[.agg #[.slice A0_0 l0_0.length c0_0, .slice A0_1 l0_1.length c0_1]] rfl qa_ ?_; (with_reducible refine (Z37.calls k _ _ l0_0 _ _ l0_1 false _ (cb_ HR0_0) HC0_0.out (cb_ HR0_1) HC0_1.out A2.out).mono ?_); rintro e w12 ⟨rfl, hb⟩; refine ⟨_, rfl, ?_⟩; replace BK911 := bb_ BK911 hb; replace HB := b1_ hb; clear hb))
  go_ret2
  exact ⟨_, qb_, by first | exact Kd.S_nil _ _ _ _ _ | exact Kd.N_nil _ _ _ _ _ | exact Kd.V_nil _ _ _ _ _ | exact Kd.Q_nil _ _ _ _ _ | exact Kd.R_nil _ _ _ _ _, hB_⟩
def Z68.l0 : Nat → ByteArray → Int → Option (Bool)
 | 0, _, _ => none
 | k + 1, x0, x3 => if x3 < (x0.size : Int) then (if 0 ≤ x3 then (if (bt x0 x3) = 84 then (Z68.l0 k x0 (wrap64 (x3 + 1))) else (if (bt x0 x3) = 116 then (Z68.l0 k x0 (wrap64 (x3 + 1))) else (if (bt x0 x3) = 83 then (Z68.l0 k x0 (wrap64 (x3 + 1))) else (if (bt x0 x3) = 115 then (Z68.l0 k x0 (wrap64 (x3 + 1))) else (some false))))) else (none)) else (some true)
def Z68.f (k : Nat) (a0 : ByteArray) : Option (Bool) := if (a0.size : Int) > 40 then (some false) else (Z68.l0 k a0 0)
theorem Z68.mono_l : ∀ k, (∀ y0 y1, LeO (Z68.l0 k y0 y1) (Z68.l0 (k + 1) y0 y1))
 | 0 => fun _ _ r h => by simp [Z68.l0] at h
 | k + 1 => by
  have ih0 := Z68.mono_l k
  ·intro y0 y1
   unfold Z68.l0
   repeat' first|exact ih0 _ _|exact lo_|refine LeO.ite ?_ ?_|refine LeO.bind ?_ (fun _ => ?_)
theorem Z68.mono : ∀ a0 k, LeO (Z68.f k a0) (Z68.f (k + 1) a0) := by
 intro a0 k
 have ih0 := Z68.mono_l k
 unfold Z68.f
 repeat' first|exact ih0 _ _|exact lo_|refine LeO.ite ?_ ?_|refine LeO.bind ?_ (fun _ => ?_)
set_option maxHeartbeats 8000000 in
set_option maxRecDepth 100000 in
theorem Z68.calls (k : Nat) (a0 : ByteArray) (r : Bool) (w : World) (h : Z68.f k a0 = some r) :
  Calls Try.prog 89 #[.string a0] w fun e w' => e = .returned (.bool r) ∧ Drawn0 w w' := by
 have H := h
 unfold Z68.f at H
 clear h
 by_cases c2 : (a0.size : Int) > 40
 ·rw [if_pos c2] at H
  have c2b0 : decide (40 < (a0.size : Int)) = true := oC_ c2
  have c2b1 : decide (40 < a0.size) = true := oC_ (by omega)
  clear c2
  obtain rfl := Option.some.inj H
  go_enter Try.func89, Try.ntmps89
  go_wp2
  go_ret
  exact ⟨qc_, by repeat (first | exact Drawn0.refl _ | apply Drawn0.step)⟩
 ·rw [if_neg c2] at H
  have c2b0 : decide (40 < (a0.size : Int)) = false := oD_ c2
  have c2b1 : decide (40 < a0.size) = false := oD_ (by omega)
  clear c2
  have H' := A_ H
  clear H
  go_enter Try.func89, Try.ntmps89
  go_wp2
  go_loopg [3] k (fun kq v3 w' => ∃ (x3_1 : Int), v3 = .int .i64 x3_1 ∧ Aside0 (Z68.l0 kq a0 x3_1 = some r) ∧ Aside0 (kq ≤ k) ∧ Drawn0 w w')
  case atStart => exact ⟨(0), qc_, H', ⟨nA_ _⟩, by repeat (first | exact Drawn0.refl _ | apply Drawn0.step)⟩
  case round =>
   clear H'
   obtain ⟨x3_1, rfl, HA, HK1, ⟨m1, rfl⟩⟩ := hrel
   cases gk with
   | zero => exact absurd HA.out (by simp [Z68.l0])
   | succ k1 =>
    have H := HA.out
    clear HA
    simp only [Z68.l0] at H
    by_cases c3 : x3_1 < (a0.size : Int)
    ·rw [if_pos c3] at H
     have c3b0 := oC_ c3
     clear c3
     have c4 := cp_ H
     replace H := ca_ H
     have c4b0 := oC_ c4
     clear c4
     by_cases c6 : (bt a0 x3_1) = 84
     ·rw [if_pos c6] at H
      have c6b0 : ((bt a0 x3_1) == 84) = true := beq_iff_eq.mpr c6
      have c6b1 : ((bt a0 x3_1) != 84) = false := bne_eq_false_iff_eq.mpr c6
      clear c6
      have H' := A_ H
      clear H
      have p5 : 0 ≤ (x3_1 : Int) := oB_ qe_
      have q5 : x3_1 < (a0.size : Int) := oB_ qe_
      have hx5 := bt_at a0 x3_1
      replace p5 := eq_true p5
      replace q5 := eq_true q5
      go_wp2
      go_roundg k1
      case measure => have := HK1.out; omega
      case rel => exact ⟨(wrap64 (x3_1 + 1)), qc_, H', ⟨by have := HK1.out; omega⟩, by repeat (first | exact Drawn0.refl _ | apply Drawn0.step)⟩
     ·rw [if_neg c6] at H
      have c6b0 : ((bt a0 x3_1) == 84) = false := beq_eq_false_iff_ne.mpr c6
      have c6b1 : ((bt a0 x3_1) != 84) = true := bne_iff_ne.mpr c6
      by_cases c7 : (bt a0 x3_1) = 116
      ·rw [if_pos c7] at H
       have c7b0 : ((bt a0 x3_1) == 116) = true := beq_iff_eq.mpr c7
       have c7b1 : ((bt a0 x3_1) != 116) = false := bne_eq_false_iff_eq.mpr c7
       clear c7
       have H' := A_ H
       clear H
       have p5 : 0 ≤ (x3_1 : Int) := oB_ qe_
       have q5 : x3_1 < (a0.size : Int) := oB_ qe_
       have hx5 := bt_at a0 x3_1
       replace p5 := eq_true p5
       replace q5 := eq_true q5
       go_wp2
       go_roundg k1
       case measure => have := HK1.out; omega
       case rel => exact ⟨(wrap64 (x3_1 + 1)), qc_, H', ⟨by have := HK1.out; omega⟩, by repeat (first | exact Drawn0.refl _ | apply Drawn0.step)⟩
      ·rw [if_neg c7] at H
       have c7b0 : ((bt a0 x3_1) == 116) = false := beq_eq_false_iff_ne.mpr c7
       have c7b1 : ((bt a0 x3_1) != 116) = true := bne_iff_ne.mpr c7
       by_cases c8 : (bt a0 x3_1) = 83
       ·rw [if_pos c8] at H
        have c8b0 : ((bt a0 x3_1) == 83) = true := beq_iff_eq.mpr c8
        have c8b1 : ((bt a0 x3_1) != 83) = false := bne_eq_false_iff_eq.mpr c8
        clear c8
        have H' := A_ H
        clear H
        have p5 : 0 ≤ (x3_1 : Int) := oB_ qe_
        have q5 : x3_1 < (a0.size : Int) := oB_ qe_
        have hx5 := bt_at a0 x3_1
        replace p5 := eq_true p5
        replace q5 := eq_true q5
        go_wp2
        go_roundg k1
        case measure => have := HK1.out; omega
        case rel => exact ⟨(wrap64 (x3_1 + 1)), qc_, H', ⟨by have := HK1.out; omega⟩, by repeat (first | exact Drawn0.refl _ | apply Drawn0.step)⟩
       ·rw [if_neg c8] at H
        have c8b0 : ((bt a0 x3_1) == 83) = false := beq_eq_false_iff_ne.mpr c8
        have c8b1 : ((bt a0 x3_1) != 83) = true := bne_iff_ne.mpr c8
        by_cases c9 : (bt a0 x3_1) = 115
        ·rw [if_pos c9] at H
         have c9b0 : ((bt a0 x3_1) == 115) = true := beq_iff_eq.mpr c9
         have c9b1 : ((bt a0 x3_1) != 115) = false := bne_eq_false_iff_eq.mpr c9
         clear c9
         have H' := A_ H
         clear H
         have p5 : 0 ≤ (x3_1 : Int) := oB_ qe_
         have q5 : x3_1 < (a0.size : Int) := oB_ qe_
         have hx5 := bt_at a0 x3_1
         replace p5 := eq_true p5
         replace q5 := eq_true q5
         go_wp2
         go_roundg k1
         case measure => have := HK1.out; omega
         case rel => exact ⟨(wrap64 (x3_1 + 1)), qc_, H', ⟨by have := HK1.out; omega⟩, by repeat (first | exact Drawn0.refl _ | apply Drawn0.step)⟩
        ·rw [if_neg c9] at H
         have c9b0 : ((bt a0 x3_1) == 115) = false := beq_eq_false_iff_ne.mpr c9
         have c9b1 : ((bt a0 x3_1) != 115) = true := bne_iff_ne.mpr c9
         obtain rfl := Option.some.inj H
         have p5 : 0 ≤ (x3_1 : Int) := oB_ qe_
         have q5 : x3_1 < (a0.size : Int) := oB_ qe_
         have hx5 := bt_at a0 x3_1
         replace p5 := eq_true p5
         replace q5 := eq_true q5
         go_wp2
         go_ret
         exact ⟨qc_, by repeat (first | exact Drawn0.refl _ | apply Drawn0.step)⟩
    ·rw [if_neg c3] at H
     have c3b0 := oD_ c3
     clear c3
     obtain rfl := Option.some.inj H
     go_wp2
     go_ret
     exact ⟨qc_, by repeat (first | exact Drawn0.refl _ | apply Drawn0.step)⟩
def Z70.l0 : Nat → ByteArray → Int → List Int → List Int → Option (List Int × List Int)
 | 0, _, _, _, _ => none
 | k + 1, x1, x6, x1204000, x1204001 => if x6 < (x1.size : Int) then (if 0 ≤ x6 then ((Z41.f k x1204000 x1204001 (bt x1 x6)).bind fun bt1204 => (Z70.l0 k x1 (wrap64 (x6 + 1)) bt1204.1 bt1204.2)) else (none)) else (some (x1204000, x1204001))
def Z70.f (k : Nat) (l0_0 : List Int) (l0_1 : List Int) (a1 : ByteArray) : Option (List Int × List Int) := (some (([] : List Int) : List Int)).bind fun y1191 => (if y1191.length + l0_0.length < 17592186044416 then ((some (([] : List Int) : List Int)).bind fun y1197 => (if y1197.length + l0_1.length < 17592186044416 then (Z70.l0 k a1 0 (y1191 ++ l0_0) (y1197 ++ l0_1)) else (none))) else (none))
theorem Z70.mono_l : ∀ k, (∀ y0 y1 y2 y3, LeO (Z70.l0 k y0 y1 y2 y3) (Z70.l0 (k + 1) y0 y1 y2 y3))
 | 0 => fun _ _ _ _ r h => by simp [Z70.l0] at h
 | k + 1 => by
  have ih0 := Z70.mono_l k
  ·intro y0 y1 y2 y3
   unfold Z70.l0
   repeat' first|exact ih0 _ _ _ _|exact Z41.mono _ _ _ _|exact lo_|refine LeO.ite ?_ ?_|refine LeO.bind ?_ (fun _ => ?_)
theorem Z70.mono : ∀ a0 a1 a2 k, LeO (Z70.f k a0 a1 a2) (Z70.f (k + 1) a0 a1 a2) := by
 intro a0 a1 a2 k
 have ih0 := Z70.mono_l k
 unfold Z70.f
 repeat' first|exact ih0 _ _ _ _|exact Z41.mono _ _ _ _|exact lo_|refine LeO.ite ?_ ?_|refine LeO.bind ?_ (fun _ => ?_)
def Z70.T1 : Bool × List (List Nat × List Nat) := (true, [([], []), ([], []), ([1], [1]), ([0, 2], [0, 2]), ([], []), ([], []), ([5], [5]), ([4, 6, 3], [4, 6]), ([3, 7], [3, 7]), ([], []), ([9, 8, 7, 0, 1, 2, 3, 4, 5, 6, 7, 8, 9], [8, 9])])
def Z70.B1 : List Nat := [0, 0, 2, 7, 0, 0, 32, 127, 255, 0, 1023]
theorem Z70.tab1 : rtab .any (opsOf Try.f164 1) = Z70.T1 := by kernel_rfl
theorem Z70.bits1 : waitsOk Z70.T1.2 Z70.B1 = true := by kernel_rfl
set_option maxHeartbeats 8000000 in
set_option maxRecDepth 100000 in
theorem Z70.calls (k : Nat) (A0_0 : Option Addr) (c0_0 : Nat) (l0_0 : List Int) (A0_1 : Option Addr) (c0_1 : Nat) (l0_1 : List Int) (a1 : ByteArray) (r1 : List Int) (r2 : List Int) (w : World) (hr0_0 : Kd.C (Kd.int .i64) w A0_0 l0_0.length l0_0) (hc0_0 : l0_0.length ≤ c0_0) (hr0_1 : Kd.C (Kd.int .i64) w A0_1 l0_1.length l0_1) (hc0_1 : l0_1.length ≤ c0_1) (h : Z70.f k l0_0 l0_1 a1 = some (r1, r2)) :
  Calls Try.prog 164 #[.agg #[.slice A0_0 l0_0.length c0_0, .slice A0_1 l0_1.length c0_1], .string a1] w fun e w' => ∃ v0_ v1_ : Value, e = .returned (.agg #[v0_, v1_]) ∧ Kd.R (Kd.int .i64) 3 w' w.heap.size (fun k_ => some k_ ≠ (v1_ : Value).ownBlock) v0_ r1 ∧ Kd.R (Kd.int .i64) 3 w' w.heap.size (fun k_ => some k_ ≠ (v0_ : Value).ownBlock) v1_ r2 ∧ Below w.heap.size w w' := by
 have hu25 := Try.underlying25
 have HR0_0 := A_ hr0_0
 have HC0_0 := A_ hc0_0
 clear hr0_0 hc0_0
 have HR0_1 := A_ hr0_1
 have HC0_1 := A_ hc0_1
 clear hr0_1 hc0_1
 have HB := A_ (Below.refl w.heap.size w)
 have H := h
 unfold Z70.f at H
 clear h
 obtain ⟨y1191, hy1191⟩ : ∃ y_ : List Int, y_ = (([] : List Int)) := ⟨_, rfl⟩
 replace H : (if y1191.length + l0_0.length < 17592186044416 then ((some (([] : List Int) : List Int)).bind fun y1197 => (if y1197.length + l0_1.length < 17592186044416 then (Z70.l0 k a1 0 (y1191 ++ l0_0) (y1197 ++ l0_1)) else (none))) else (none)) = some (r1, r2) := by first | (rw [hy1191]; exact H) | exact H
 have Ny1191 := A_ hy1191
 clear hy1191
 have c3 := cp_ H
 replace H := ca_ H
 have LMc3 := A_ c3
 clear c3
 obtain ⟨y1194, hy1194⟩ : ∃ y_ : List Int, y_ = (y1191 ++ l0_0) := ⟨_, rfl⟩
 replace H : ((some (([] : List Int) : List Int)).bind fun y1197 => (if y1197.length + l0_1.length < 17592186044416 then (Z70.l0 k a1 0 y1194 (y1197 ++ l0_1)) else (none))) = some (r1, r2) := by first | (rw [hy1194]; exact H) | exact H
 have Ny1194 := A_ hy1194
 clear hy1194
 obtain ⟨y1197, hy1197⟩ : ∃ y_ : List Int, y_ = (([] : List Int)) := ⟨_, rfl⟩
 replace H : (if y1197.length + l0_1.length < 17592186044416 then (Z70.l0 k a1 0 y1194 (y1197 ++ l0_1)) else (none)) = some (r1, r2) := by first | (rw [hy1197]; exact H) | exact H
 have Ny1197 := A_ hy1197
 clear hy1197
 have c4 := cp_ H
 replace H := ca_ H
 have LMc4 := A_ c4
 clear c4
 obtain ⟨y1200, hy1200⟩ : ∃ y_ : List Int, y_ = (y1197 ++ l0_1) := ⟨_, rfl⟩
 replace H : (Z70.l0 k a1 0 y1194 y1200) = some (r1, r2) := by first | (rw [hy1200]; exact H) | exact H
 have Ny1200 := A_ hy1200
 clear hy1200
 have H' := A_ H
 clear H
 go_enter Try.func164, Try.ntmps164
 try go_wp2_with (first | ((with_reducible refine gB_ (N := 2) rfl ?_); refine bx_ 2 #[.slice A0_0 l0_0.length c0_0, .slice A0_1 l0_1.length c0_1] 25 ?_; intro gb1189 hg w5 hbox hb; have BK1189 := A_ hbox; have GW1189 := gw_ w hg; have GE1189 := GW1189; replace HB := b1_ hb; clear hb hbox hg) | ((with_reducible refine gB_ (N := 4) rfl ?_); refine bx_ 4 #[.slice none 0 0, .slice none 0 0] 25 ?_; intro gb1190 hg w6 hbox hb; have BK1190 := A_ hbox; have GW1190 := gw_ w hg; have GE1190 := GW1190; replace HB := b1_ hb; have NB1189_1190 := gN_ BK1189 hg; have NB1190_1189 := gP_ BK1189 hg; replace BK1189 := bb_ BK1189 hb; clear hb hbox hg))
 replace BK1189 := A_ (kB_ BK1189.out)
 replace BK1190 := A_ (kB_ BK1190.out)
 replace HB := A_ (bC_ HB.out)
 refine start_ (n := 11) (S := fun w' => w'.cell? ⟨gb1189, 0, none⟩ = some (.slice A0_0 l0_0.length c0_0) ∧ w'.cell? ⟨gb1189, 1, none⟩ = some (.slice A0_1 l0_1.length c0_1)) (ds := []) (bl_ 11 0) (by kernel_rfl) rfl (by kernel_rfl) ⟨cz0_ BK1189, cz1_ BK1189⟩ (fun hHeld => ?_); refine with_tabW Z70.tab1 Z70.bits1 (fun HT_ HW_ => ?_)
 generalize w6.drew = w7 at BK1189 BK1190 HB hHeld ⊢
 refine pu_ 1 (some 8) (bl_ 11 2) HT_ ?_
 refine pu_ 5 (some 12) (bl_ 11 34) HT_ ?_
 refine ta_ 2 (some 9) (bl_ 11 38) HT_ HW_ hHeld ?_
 refine ta_ 6 (some 13) (bl_ 11 102) HT_ HW_ hHeld ?_
 refine join_ (σ := Value × Value × Value × Value × Nat) 1 (bl_ 11 1023) (fun s_ => [(7, s_.1), (10, s_.2.1), (11, s_.2.2.1), (14, s_.2.2.2.1), (5, .pointer (some ⟨s_.2.2.2.2, 0, none⟩)), (15, .agg #[s_.2.1, s_.2.2.2.1])]) (fun s_ w' => (w'.cell? ⟨gb1189, 0, none⟩ = some (.slice A0_0 l0_0.length c0_0) ∧ w'.cell? ⟨gb1189, 1, none⟩ = some (.slice A0_1 l0_1.length c0_1)) ∧ (Kd.R (Kd.int .i64) 3 w' w.heap.size (fun k_ => some k_ ≠ (s_.2.2.2.1 : Value).ownBlock) s_.2.1 y1194) ∧ (Kd.R (Kd.int .i64) 3 w' w.heap.size (fun k_ => some k_ ≠ (s_.2.1 : Value).ownBlock) s_.2.2.2.1 y1200) ∧ (w'.heap[gb1189]? = some (.cells #[.slice A0_0 l0_0.length c0_0, .slice A0_1 l0_1.length c0_1] 25 (0, 0))) ∧ (w'.heap[gb1190]? = some (.cells #[.slice none 0 0, .slice none 0 0] 25 (0, 0))) ∧ (w'.heap[s_.2.2.2.2]? = some (.cells #[.slice none 0 0, .slice none 0 0] 25 (0, 0))) ∧ (w.heap.size ≤ s_.2.2.2.2) ∧ (w.heap.size ≤ s_.2.2.2.2) ∧ (gb1189 ≠ s_.2.2.2.2) ∧ (s_.2.2.2.2 ≠ gb1189) ∧ (gb1190 ≠ s_.2.2.2.2) ∧ (s_.2.2.2.2 ≠ gb1190) ∧ (Below w.heap.size w w')) ?_ ?_
 rotate_left
 ·intro hJ0_3_4_7_9
  refine join_ (σ := Value × Value × Value × Value) 2 (bl_ 11 511) (fun s_ => [(7, s_.1), (10, s_.2.1), (11, s_.2.2.1), (14, s_.2.2.2), (15, .agg #[s_.2.1, s_.2.2.2])]) (fun s_ w' => (w'.cell? ⟨gb1189, 0, none⟩ = some (.slice A0_0 l0_0.length c0_0) ∧ w'.cell? ⟨gb1189, 1, none⟩ = some (.slice A0_1 l0_1.length c0_1)) ∧ (Kd.R (Kd.int .i64) 3 w' w.heap.size (fun k_ => some k_ ≠ (s_.2.2.2 : Value).ownBlock) s_.2.1 y1194) ∧ (Kd.R (Kd.int .i64) 3 w' w.heap.size (fun k_ => some k_ ≠ (s_.2.1 : Value).ownBlock) s_.2.2.2 y1200) ∧ (w'.heap[gb1189]? = some (.cells #[.slice A0_0 l0_0.length c0_0, .slice A0_1 l0_1.length c0_1] 25 (0, 0))) ∧ (w'.heap[gb1190]? = some (.cells #[.slice none 0 0, .slice none 0 0] 25 (0, 0))) ∧ (Below w.heap.size w w')) ?_ ?_
  rotate_left
  ·intro hJ0_3_4_7
   refine join_ (σ := Value × Value × Value × Nat) 3 (bl_ 11 639) (fun s_ => [(7, s_.1), (10, s_.2.1), (11, s_.2.2.1), (5, .pointer (some ⟨s_.2.2.2, 0, none⟩))]) (fun s_ w' => (w'.cell? ⟨gb1189, 0, none⟩ = some (.slice A0_0 l0_0.length c0_0) ∧ w'.cell? ⟨gb1189, 1, none⟩ = some (.slice A0_1 l0_1.length c0_1)) ∧ (Kd.R (Kd.int .i64) 3 w' w.heap.size (fun k_ => some k_ ≠ (s_.2.2.1 : Value).ownBlock) s_.2.1 y1194) ∧ (Kd.R (Kd.int .i64) 3 w' w.heap.size (fun k_ => some k_ ≠ (s_.2.1 : Value).ownBlock) s_.2.2.1 y1197) ∧ (w'.heap[gb1189]? = some (.cells #[.slice A0_0 l0_0.length c0_0, .slice A0_1 l0_1.length c0_1] 25 (0, 0))) ∧ (w'.heap[gb1190]? = some (.cells #[.slice none 0 0, .slice none 0 0] 25 (0, 0))) ∧ (w'.heap[s_.2.2.2]? = some (.cells #[.slice none 0 0, .slice none 0 0] 25 (0, 0))) ∧ (w.heap.size ≤ s_.2.2.2) ∧ (w.heap.size ≤ s_.2.2.2) ∧ (gb1189 ≠ s_.2.2.2) ∧ (s_.2.2.2 ≠ gb1189) ∧ (gb1190 ≠ s_.2.2.2) ∧ (s_.2.2.2 ≠ gb1190) ∧ (Below w.heap.size w w')) ?_ ?_
   rotate_left
   ·intro hJ0_3_4_9
    refine join_ (σ := Value × Value × Value) 4 (bl_ 11 127) (fun s_ => [(7, s_.1), (10, s_.2.1), (11, s_.2.2)]) (fun s_ w' => (w'.cell? ⟨gb1189, 0, none⟩ = some (.slice A0_0 l0_0.length c0_0) ∧ w'.cell? ⟨gb1189, 1, none⟩ = some (.slice A0_1 l0_1.length c0_1)) ∧ (Kd.R (Kd.int .i64) 3 w' w.heap.size (fun k_ => some k_ ≠ (s_.2.2 : Value).ownBlock) s_.2.1 y1194) ∧ (Kd.R (Kd.int .i64) 3 w' w.heap.size (fun k_ => some k_ ≠ (s_.2.1 : Value).ownBlock) s_.2.2 y1197) ∧ (w'.heap[gb1189]? = some (.cells #[.slice A0_0 l0_0.length c0_0, .slice A0_1 l0_1.length c0_1] 25 (0, 0))) ∧ (w'.heap[gb1190]? = some (.cells #[.slice none 0 0, .slice none 0 0] 25 (0, 0))) ∧ (Below w.heap.size w w')) ?_ ?_
    rotate_left
    ·intro hJ0_3_4
     refine join_ (σ := Value × Value × Nat) 4 (bl_ 11 623) (fun s_ => [(7, s_.1), (10, s_.2.1), (5, .pointer (some ⟨s_.2.2, 0, none⟩))]) (fun s_ w' => (w'.cell? ⟨gb1189, 0, none⟩ = some (.slice A0_0 l0_0.length c0_0) ∧ w'.cell? ⟨gb1189, 1, none⟩ = some (.slice A0_1 l0_1.length c0_1)) ∧ (Kd.R (Kd.int .i64) 3 w' w.heap.size (fun _ => True) s_.2.1 y1194) ∧ (w'.heap[gb1189]? = some (.cells #[.slice A0_0 l0_0.length c0_0, .slice A0_1 l0_1.length c0_1] 25 (0, 0))) ∧ (w'.heap[gb1190]? = some (.cells #[.slice none 0 0, .slice none 0 0] 25 (0, 0))) ∧ (w'.heap[s_.2.2]? = some (.cells #[.slice none 0 0, .slice none 0 0] 25 (0, 0))) ∧ (w.heap.size ≤ s_.2.2) ∧ (w.heap.size ≤ s_.2.2) ∧ (gb1189 ≠ s_.2.2) ∧ (s_.2.2 ≠ gb1189) ∧ (gb1190 ≠ s_.2.2) ∧ (s_.2.2 ≠ gb1190) ∧ (Below w.heap.size w w')) ?_ ?_
     rotate_left
     ·intro hJ0_3_9
      refine join_ (σ := Value × Value × Nat) 4 (bl_ 11 631) (fun s_ => [(7, s_.1), (11, s_.2.1), (5, .pointer (some ⟨s_.2.2, 0, none⟩))]) (fun s_ w' => (w'.cell? ⟨gb1189, 0, none⟩ = some (.slice A0_0 l0_0.length c0_0) ∧ w'.cell? ⟨gb1189, 1, none⟩ = some (.slice A0_1 l0_1.length c0_1)) ∧ (Kd.R (Kd.int .i64) 3 w' w.heap.size (fun k_ => some k_ ≠ (s_.2.1 : Value).ownBlock) s_.1 y1191) ∧ (Kd.R (Kd.int .i64) 3 w' w.heap.size (fun k_ => some k_ ≠ (s_.1 : Value).ownBlock) s_.2.1 y1197) ∧ (w'.heap[gb1189]? = some (.cells #[.slice A0_0 l0_0.length c0_0, .slice A0_1 l0_1.length c0_1] 25 (0, 0))) ∧ (w'.heap[gb1190]? = some (.cells #[.slice none 0 0, .slice none 0 0] 25 (0, 0))) ∧ (w'.heap[s_.2.2]? = some (.cells #[.slice none 0 0, .slice none 0 0] 25 (0, 0))) ∧ (w.heap.size ≤ s_.2.2) ∧ (w.heap.size ≤ s_.2.2) ∧ (gb1189 ≠ s_.2.2) ∧ (s_.2.2 ≠ gb1189) ∧ (gb1190 ≠ s_.2.2) ∧ (s_.2.2 ≠ gb1190) ∧ (Below w.heap.size w w')) ?_ ?_
      rotate_left
      ·intro hJ0_4_9
       refine join_ (σ := Value × Value) 5 (bl_ 11 111) (fun s_ => [(7, s_.1), (10, s_.2)]) (fun s_ w' => (w'.cell? ⟨gb1189, 0, none⟩ = some (.slice A0_0 l0_0.length c0_0) ∧ w'.cell? ⟨gb1189, 1, none⟩ = some (.slice A0_1 l0_1.length c0_1)) ∧ (Kd.R (Kd.int .i64) 3 w' w.heap.size (fun _ => True) s_.2 y1194) ∧ (w'.heap[gb1189]? = some (.cells #[.slice A0_0 l0_0.length c0_0, .slice A0_1 l0_1.length c0_1] 25 (0, 0))) ∧ (w'.heap[gb1190]? = some (.cells #[.slice none 0 0, .slice none 0 0] 25 (0, 0))) ∧ (Below w.heap.size w w')) ?_ ?_
       rotate_left
       ·intro hJ0_3
        refine join_ (σ := Value × Value) 5 (bl_ 11 119) (fun s_ => [(7, s_.1), (11, s_.2)]) (fun s_ w' => (w'.cell? ⟨gb1189, 0, none⟩ = some (.slice A0_0 l0_0.length c0_0) ∧ w'.cell? ⟨gb1189, 1, none⟩ = some (.slice A0_1 l0_1.length c0_1)) ∧ (Kd.R (Kd.int .i64) 3 w' w.heap.size (fun k_ => some k_ ≠ (s_.2 : Value).ownBlock) s_.1 y1191) ∧ (Kd.R (Kd.int .i64) 3 w' w.heap.size (fun k_ => some k_ ≠ (s_.1 : Value).ownBlock) s_.2 y1197) ∧ (w'.heap[gb1189]? = some (.cells #[.slice A0_0 l0_0.length c0_0, .slice A0_1 l0_1.length c0_1] 25 (0, 0))) ∧ (w'.heap[gb1190]? = some (.cells #[.slice none 0 0, .slice none 0 0] 25 (0, 0))) ∧ (Below w.heap.size w w')) ?_ ?_
        rotate_left
        ·intro hJ0_4
         refine join_ (σ := Value × Nat) 5 (bl_ 11 615) (fun s_ => [(7, s_.1), (5, .pointer (some ⟨s_.2, 0, none⟩))]) (fun s_ w' => (w'.cell? ⟨gb1189, 0, none⟩ = some (.slice A0_0 l0_0.length c0_0) ∧ w'.cell? ⟨gb1189, 1, none⟩ = some (.slice A0_1 l0_1.length c0_1)) ∧ (Kd.R (Kd.int .i64) 3 w' w.heap.size (fun _ => True) s_.1 y1191) ∧ (w'.heap[gb1189]? = some (.cells #[.slice A0_0 l0_0.length c0_0, .slice A0_1 l0_1.length c0_1] 25 (0, 0))) ∧ (w'.heap[gb1190]? = some (.cells #[.slice none 0 0, .slice none 0 0] 25 (0, 0))) ∧ (w'.heap[s_.2]? = some (.cells #[.slice none 0 0, .slice none 0 0] 25 (0, 0))) ∧ (w.heap.size ≤ s_.2) ∧ (w.heap.size ≤ s_.2) ∧ (gb1189 ≠ s_.2) ∧ (s_.2 ≠ gb1189) ∧ (gb1190 ≠ s_.2) ∧ (s_.2 ≠ gb1190) ∧ (Below w.heap.size w w')) ?_ ?_
         rotate_left
         ·intro hJ0_9
          refine join_ (σ := Value × Nat) 5 (bl_ 11 630) (fun s_ => [(11, s_.1), (5, .pointer (some ⟨s_.2, 0, none⟩))]) (fun s_ w' => (w'.cell? ⟨gb1189, 0, none⟩ = some (.slice A0_0 l0_0.length c0_0) ∧ w'.cell? ⟨gb1189, 1, none⟩ = some (.slice A0_1 l0_1.length c0_1)) ∧ (Kd.R (Kd.int .i64) 3 w' w.heap.size (fun _ => True) s_.1 y1197) ∧ (w'.heap[gb1189]? = some (.cells #[.slice A0_0 l0_0.length c0_0, .slice A0_1 l0_1.length c0_1] 25 (0, 0))) ∧ (w'.heap[gb1190]? = some (.cells #[.slice none 0 0, .slice none 0 0] 25 (0, 0))) ∧ (w'.heap[s_.2]? = some (.cells #[.slice none 0 0, .slice none 0 0] 25 (0, 0))) ∧ (w.heap.size ≤ s_.2) ∧ (w.heap.size ≤ s_.2) ∧ (gb1189 ≠ s_.2) ∧ (s_.2 ≠ gb1189) ∧ (gb1190 ≠ s_.2) ∧ (s_.2 ≠ gb1190) ∧ (Below w.heap.size w w')) ?_ ?_
          rotate_left
          ·intro hJ4_9
           refine join_ (σ := Value) 6 (bl_ 11 103) (fun s_ => [(7, s_)]) (fun s_ w' => (w'.cell? ⟨gb1189, 0, none⟩ = some (.slice A0_0 l0_0.length c0_0) ∧ w'.cell? ⟨gb1189, 1, none⟩ = some (.slice A0_1 l0_1.length c0_1)) ∧ (Kd.R (Kd.int .i64) 3 w' w.heap.size (fun _ => True) s_ y1191) ∧ (w'.heap[gb1189]? = some (.cells #[.slice A0_0 l0_0.length c0_0, .slice A0_1 l0_1.length c0_1] 25 (0, 0))) ∧ (w'.heap[gb1190]? = some (.cells #[.slice none 0 0, .slice none 0 0] 25 (0, 0))) ∧ (Below w.heap.size w w')) ?_ ?_
           rotate_left
           ·intro hJ0
            refine join_ (σ := Value) 6 (bl_ 11 118) (fun s_ => [(11, s_)]) (fun s_ w' => (w'.cell? ⟨gb1189, 0, none⟩ = some (.slice A0_0 l0_0.length c0_0) ∧ w'.cell? ⟨gb1189, 1, none⟩ = some (.slice A0_1 l0_1.length c0_1)) ∧ (Kd.R (Kd.int .i64) 3 w' w.heap.size (fun _ => True) s_ y1197) ∧ (w'.heap[gb1189]? = some (.cells #[.slice A0_0 l0_0.length c0_0, .slice A0_1 l0_1.length c0_1] 25 (0, 0))) ∧ (w'.heap[gb1190]? = some (.cells #[.slice none 0 0, .slice none 0 0] 25 (0, 0))) ∧ (Below w.heap.size w w')) ?_ ?_
            rotate_left
            ·intro hJ4
             refine join_ (σ := Nat) 6 (bl_ 11 614) (fun s_ => [(5, .pointer (some ⟨s_, 0, none⟩))]) (fun s_ w' => (w'.cell? ⟨gb1189, 0, none⟩ = some (.slice A0_0 l0_0.length c0_0) ∧ w'.cell? ⟨gb1189, 1, none⟩ = some (.slice A0_1 l0_1.length c0_1)) ∧ (w'.heap[gb1189]? = some (.cells #[.slice A0_0 l0_0.length c0_0, .slice A0_1 l0_1.length c0_1] 25 (0, 0))) ∧ (w'.heap[gb1190]? = some (.cells #[.slice none 0 0, .slice none 0 0] 25 (0, 0))) ∧ (w'.heap[s_]? = some (.cells #[.slice none 0 0, .slice none 0 0] 25 (0, 0))) ∧ (w.heap.size ≤ s_) ∧ (w.heap.size ≤ s_) ∧ (gb1189 ≠ s_) ∧ (s_ ≠ gb1189) ∧ (gb1190 ≠ s_) ∧ (s_ ≠ gb1190) ∧ (Below w.heap.size w w')) ?_ ?_
             rotate_left
             ·intro hJ9
              refine three_ (i := 0) (j := 4) (k := 9) (Ni := some 7) (Nj := some 11) (Nk := some 5) (bl_ 11 103) (bl_ 11 118) (bl_ 11 614) rfl rfl rfl rfl rfl rfl (three_of HT_.out (by kernel_rfl)) (by decide) (by decide) (by decide) (fun K hK => ?_) (fun K hK => ?_) (fun K hK => ?_)
              ·skip
               refine Kd.R_lit_step (Kd.int .i64) _ 3 ?hg (N := 7) ?hd (xs := ([] : List Int)) (inner := []) (ok := fun _ => True) (okp := fun _ => True) ?hr ?hp (fun _ hk => hk) trivial (Below.refl _ _) (nA_ _) (by simp) ?_; (case hd => rfl); (case hg => rfl); (case hr => first | (go_simp; done) | (go_simp; rfl)); (case hp => exact (Reps.none _ _))
               intro v1192 w8 ho9 hb hg_ hnew_
               clear hg_ hnew_
               (first | rw [← Ny1191.out] at ho9 | (simp only [Int.reduceToNat] at ho9; rw [← Ny1191.out] at ho9))
               have HO1193 := rl_ w ho9
               replace BK1189 := bb_ BK1189 hb
               replace BK1190 := bb_ BK1190 hb
               replace HB := b1_ hb
               clear hb ho9
               refine hK.out _ _ ⟨cz0_ BK1189, cz1_ BK1189⟩ (fun hHeld => ?_)
               clear hK K
               refine no_ (some 7) ?_
               exact norm_ (by first | (simp only [putAll, Act.put, sA_, sB_, sC_]; done) | (simp only [putAll, Act.put, sA_, sB_, sC_]; rfl)) (hJ0 (v1192) _ ⟨hHeld, (rr_ HO1193), (kk_ BK1189), (kk_ BK1190), hB_⟩)
              ·skip
               refine Kd.R_lit_step (Kd.int .i64) _ 3 ?hg (N := 11) ?hd (xs := ([] : List Int)) (inner := []) (ok := fun _ => True) (okp := fun _ => True) ?hr ?hp (fun _ hk => hk) trivial (Below.refl _ _) (nA_ _) (by simp) ?_; (case hd => rfl); (case hg => rfl); (case hr => first | (go_simp; done) | (go_simp; rfl)); (case hp => exact (Reps.none _ _))
               intro v1198 w8 ho9 hb hg_ hnew_
               clear hg_ hnew_
               (first | rw [← Ny1197.out] at ho9 | (simp only [Int.reduceToNat] at ho9; rw [← Ny1197.out] at ho9))
               have HO1199 := rl_ w ho9
               replace BK1189 := bb_ BK1189 hb
               replace BK1190 := bb_ BK1190 hb
               replace HB := b1_ hb
               clear hb ho9
               refine hK.out _ _ ⟨cz0_ BK1189, cz1_ BK1189⟩ (fun hHeld => ?_)
               clear hK K
               refine no_ (some 11) ?_
               exact norm_ (by first | (simp only [putAll, Act.put, sA_, sB_, sC_]; done) | (simp only [putAll, Act.put, sA_, sB_, sC_]; rfl)) (hJ4 (v1198) _ ⟨hHeld, (rr_ HO1199), (kk_ BK1189), (kk_ BK1190), hB_⟩)
              ·skip
               refine box_step ?hg (N := 5) ?hd (cs := #[.slice none 0 0, .slice none 0 0]) (t := 25) ?hr ?_; (case hd => rfl); (case hg => rfl); (case hr => first | (go_simp; done) | (go_simp; rfl))
               intro gb1203 hg w8 hbox hb
               have BK1203 := A_ hbox
               have GW1203 := gw_ w hg
               have GE1203 := GW1203
               replace HB := b1_ hb
               have NB1189_1203 := gN_ BK1189 hg
               have NB1203_1189 := gP_ BK1189 hg
               replace BK1189 := bb_ BK1189 hb
               have NB1190_1203 := gN_ BK1190 hg
               have NB1203_1190 := gP_ BK1190 hg
               replace BK1190 := bb_ BK1190 hb
               clear hb hbox hg
               refine hK.out _ _ ⟨cz0_ BK1189, cz1_ BK1189⟩ (fun hHeld => ?_)
               clear hK K
               refine no_ (some 5) ?_
               exact norm_ (by first | (simp only [putAll, Act.put, sA_, sB_, sC_]; done) | (simp only [putAll, Act.put, sA_, sB_, sC_]; rfl)) (hJ9 (gb1203) _ ⟨hHeld, (kk_ BK1189), (kk_ BK1190), (kk_ BK1203), GW1203.out, GE1203.out, NB1189_1203.out, NB1203_1189.out, NB1190_1203.out, NB1203_1190.out, hB_⟩)
             ·skip
              rintro gb1203 w9 ⟨hS_, h0_, h1_, h2_, h3_, h4_, h5_, h6_, h7_, h8_, h9_⟩
              have n0_ : Aside0 (w9.heap[gb1189]? = some (.cells #[.slice A0_0 l0_0.length c0_0, .slice A0_1 l0_1.length c0_1] 25 (0, 0))) := ⟨h0_⟩
              have n1_ : Aside0 (w9.heap[gb1190]? = some (.cells #[.slice none 0 0, .slice none 0 0] 25 (0, 0))) := ⟨h1_⟩
              have n2_ : Aside0 (w9.heap[gb1203]? = some (.cells #[.slice none 0 0, .slice none 0 0] 25 (0, 0))) := ⟨h2_⟩
              have n3_ : Aside0 (w.heap.size ≤ gb1203) := ⟨h3_⟩
              have n4_ : Aside0 (w.heap.size ≤ gb1203) := ⟨h4_⟩
              have n5_ : Aside0 (gb1189 ≠ gb1203) := ⟨h5_⟩
              have n6_ : Aside0 (gb1203 ≠ gb1189) := ⟨h6_⟩
              have n7_ : Aside0 (gb1190 ≠ gb1203) := ⟨h7_⟩
              have n8_ : Aside0 (gb1203 ≠ gb1190) := ⟨h8_⟩
              have n9_ : Aside0 (Below w.heap.size w w9) := ⟨h9_⟩
              clear BK1189
              clear BK1190
              clear HB
              clear h0_ h1_ h2_ h3_ h4_ h5_ h6_ h7_ h8_ h9_
              have BK1189 := n0_
              have BK1190 := n1_
              have BK1203 := n2_
              have GW1203 := n3_
              have GE1203 := n4_
              have NB1189_1203 := n5_
              have NB1203_1189 := n6_
              have NB1190_1203 := n7_
              have NB1203_1190 := n8_
              have HB := n9_
              clear n0_ n1_ n2_ n3_ n4_ n5_ n6_ n7_ n8_ n9_
              have hHeld : w9.cell? ⟨gb1189, 0, none⟩ = some (.slice A0_0 l0_0.length c0_0) ∧ w9.cell? ⟨gb1189, 1, none⟩ = some (.slice A0_1 l0_1.length c0_1) := hS_
              refine norm_ (a' := ?_) ?_ ?_
              rotate_left
              ·simp only [putAll, Act.put, sA_, sB_, sC_]
               rfl
              refine two_ (i := 0) (j := 4) (Ni := some 7) (Nj := some 11) (bl_ 11 615) (bl_ 11 630) rfl rfl rfl rfl (two_of HT_.out (by kernel_rfl)) (by decide) (by decide) (fun K hK => ?_) (fun K hK => ?_)
              ·skip
               refine Kd.R_lit_step (Kd.int .i64) _ 3 ?hg (N := 7) ?hd (xs := ([] : List Int)) (inner := []) (ok := fun _ => True) (okp := fun _ => True) ?hr ?hp (fun _ hk => hk) trivial (Below.refl _ _) (nA_ _) (by simp) ?_; (case hd => rfl); (case hg => rfl); (case hr => first | (go_simp; done) | (go_simp; rfl)); (case hp => exact (Reps.none _ _))
               intro v1192 w10 ho11 hb hg_ hnew_
               clear hg_ hnew_
               (first | rw [← Ny1191.out] at ho11 | (simp only [Int.reduceToNat] at ho11; rw [← Ny1191.out] at ho11))
               have HO1193 := rl_ w ho11
               replace BK1189 := bb_ BK1189 hb
               replace BK1190 := bb_ BK1190 hb
               replace BK1203 := bb_ BK1203 hb
               replace HB := b1_ hb
               clear hb ho11
               refine hK.out _ _ ⟨cz0_ BK1189, cz1_ BK1189⟩ (fun hHeld => ?_)
               clear hK K
               refine no_ (some 7) ?_
               exact norm_ (by first | (simp only [putAll, Act.put, sA_, sB_, sC_]; done) | (simp only [putAll, Act.put, sA_, sB_, sC_]; rfl)) (hJ0_9 (v1192, gb1203) _ ⟨hHeld, (rr_ HO1193), (kk_ BK1189), (kk_ BK1190), (kk_ BK1203), GW1203.out, GE1203.out, NB1189_1203.out, NB1203_1189.out, NB1190_1203.out, NB1203_1190.out, hB_⟩)
              ·skip
               refine Kd.R_lit_step (Kd.int .i64) _ 3 ?hg (N := 11) ?hd (xs := ([] : List Int)) (inner := []) (ok := fun _ => True) (okp := fun _ => True) ?hr ?hp (fun _ hk => hk) trivial (Below.refl _ _) (nA_ _) (by simp) ?_; (case hd => rfl); (case hg => rfl); (case hr => first | (go_simp; done) | (go_simp; rfl)); (case hp => exact (Reps.none _ _))
               intro v1198 w10 ho11 hb hg_ hnew_
               clear hg_ hnew_
               (first | rw [← Ny1197.out] at ho11 | (simp only [Int.reduceToNat] at ho11; rw [← Ny1197.out] at ho11))
               have HO1199 := rl_ w ho11
               replace BK1189 := bb_ BK1189 hb
               replace BK1190 := bb_ BK1190 hb
               replace BK1203 := bb_ BK1203 hb
               replace HB := b1_ hb
               clear hb ho11
               refine hK.out _ _ ⟨cz0_ BK1189, cz1_ BK1189⟩ (fun hHeld => ?_)
               clear hK K
               refine no_ (some 11) ?_
               exact norm_ (by first | (simp only [putAll, Act.put, sA_, sB_, sC_]; done) | (simp only [putAll, Act.put, sA_, sB_, sC_]; rfl)) (hJ4_9 (v1198, gb1203) _ ⟨hHeld, (rr_ HO1199), (kk_ BK1189), (kk_ BK1190), (kk_ BK1203), GW1203.out, GE1203.out, NB1189_1203.out, NB1203_1189.out, NB1190_1203.out, NB1203_1190.out, hB_⟩)
            ·skip
             rintro v1198 w10 ⟨hS_, h0_, h1_, h2_, h3_⟩
             have n0_ : Aside0 (Kd.R (Kd.int .i64) 3 w10 w.heap.size (fun _ => True) v1198 y1197) := ⟨h0_⟩
             have n1_ : Aside0 (w10.heap[gb1189]? = some (.cells #[.slice A0_0 l0_0.length c0_0, .slice A0_1 l0_1.length c0_1] 25 (0, 0))) := ⟨h1_⟩
             have n2_ : Aside0 (w10.heap[gb1190]? = some (.cells #[.slice none 0 0, .slice none 0 0] 25 (0, 0))) := ⟨h2_⟩
             have n3_ : Aside0 (Below w.heap.size w w10) := ⟨h3_⟩
             clear BK1189
             clear BK1190
             clear HB
             clear h0_ h1_ h2_ h3_
             have HO1199 := n0_
             have BK1189 := n1_
             have BK1190 := n2_
             have HB := n3_
             clear n0_ n1_ n2_ n3_
             have hHeld : w10.cell? ⟨gb1189, 0, none⟩ = some (.slice A0_0 l0_0.length c0_0) ∧ w10.cell? ⟨gb1189, 1, none⟩ = some (.slice A0_1 l0_1.length c0_1) := hS_
             refine norm_ (a' := ?_) ?_ ?_
             rotate_left
             ·simp only [putAll, Act.put, sA_, sB_, sC_]
              rfl
             refine two_ (i := 0) (j := 9) (Ni := some 7) (Nj := some 5) (bl_ 11 119) (bl_ 11 630) rfl rfl rfl rfl (two_of HT_.out (by kernel_rfl)) (by decide) (by decide) (fun K hK => ?_) (fun K hK => ?_)
             ·skip
              refine Kd.R_lit_step (Kd.int .i64) _ 3 ?hg (N := 7) ?hd (xs := ([] : List Int)) (inner := []) (ok := fun _ => True) (okp := fun _ => True) ?hr ?hp (fun _ hk => hk) trivial (Below.refl _ _) (nA_ _) (by simp) ?_; (case hd => rfl); (case hg => rfl); (case hr => first | (go_simp; done) | (go_simp; rfl)); (case hp => exact (Reps.none _ _))
              intro v1192 w11 ho12 hb hg_ hnew_
              clear hg_ hnew_
              (first | rw [← Ny1191.out] at ho12 | (simp only [Int.reduceToNat] at ho12; rw [← Ny1191.out] at ho12))
              have HO1193 := A_ (rE_ (Kd.R_new' ho12 (Kd.R_lt (rr_ HO1199))) (bF_ hB_))
              replace HO1199 := A_ (Kd.R_elder' (rr_ HO1199) (Kd.R_base ho12) hb)
              replace BK1189 := bb_ BK1189 hb
              replace BK1190 := bb_ BK1190 hb
              replace HB := b1_ hb
              clear hb ho12
              refine hK.out _ _ ⟨cz0_ BK1189, cz1_ BK1189⟩ (fun hHeld => ?_)
              clear hK K
              refine no_ (some 7) ?_
              exact norm_ (by first | (simp only [putAll, Act.put, sA_, sB_, sC_]; done) | (simp only [putAll, Act.put, sA_, sB_, sC_]; rfl)) (hJ0_4 (v1192, v1198) _ ⟨hHeld, (rw_ (Kd.R_mono HO1193.out (fun _ hk => hk.2))), (rw_ (Kd.R_mono HO1199.out (fun _ hk => hk.2))), (kk_ BK1189), (kk_ BK1190), hB_⟩)
             ·skip
              refine box_step ?hg (N := 5) ?hd (cs := #[.slice none 0 0, .slice none 0 0]) (t := 25) ?hr ?_; (case hd => rfl); (case hg => rfl); (case hr => first | (go_simp; done) | (go_simp; rfl))
              intro gb1203 hg w11 hbox hb
              replace HO1199 := rb_ HO1199 hb
              have BK1203 := A_ hbox
              have GW1203 := gw_ w hg
              have GE1203 := GW1203
              replace HB := b1_ hb
              have NB1189_1203 := gN_ BK1189 hg
              have NB1203_1189 := gP_ BK1189 hg
              replace BK1189 := bb_ BK1189 hb
              have NB1190_1203 := gN_ BK1190 hg
              have NB1203_1190 := gP_ BK1190 hg
              replace BK1190 := bb_ BK1190 hb
              clear hb hbox hg
              refine hK.out _ _ ⟨cz0_ BK1189, cz1_ BK1189⟩ (fun hHeld => ?_)
              clear hK K
              refine no_ (some 5) ?_
              exact norm_ (by first | (simp only [putAll, Act.put, sA_, sB_, sC_]; done) | (simp only [putAll, Act.put, sA_, sB_, sC_]; rfl)) (hJ4_9 (v1198, gb1203) _ ⟨hHeld, (rr_ HO1199), (kk_ BK1189), (kk_ BK1190), (kk_ BK1203), GW1203.out, GE1203.out, NB1189_1203.out, NB1203_1189.out, NB1190_1203.out, NB1203_1190.out, hB_⟩)
           ·skip
            rintro v1192 w10 ⟨hS_, h0_, h1_, h2_, h3_⟩
            have n0_ : Aside0 (Kd.R (Kd.int .i64) 3 w10 w.heap.size (fun _ => True) v1192 y1191) := ⟨h0_⟩
            have n1_ : Aside0 (w10.heap[gb1189]? = some (.cells #[.slice A0_0 l0_0.length c0_0, .slice A0_1 l0_1.length c0_1] 25 (0, 0))) := ⟨h1_⟩
            have n2_ : Aside0 (w10.heap[gb1190]? = some (.cells #[.slice none 0 0, .slice none 0 0] 25 (0, 0))) := ⟨h2_⟩
            have n3_ : Aside0 (Below w.heap.size w w10) := ⟨h3_⟩
            clear BK1189
            clear BK1190
            clear HB
            clear h0_ h1_ h2_ h3_
            have HO1193 := n0_
            have BK1189 := n1_
            have BK1190 := n2_
            have HB := n3_
            clear n0_ n1_ n2_ n3_
            have hHeld : w10.cell? ⟨gb1189, 0, none⟩ = some (.slice A0_0 l0_0.length c0_0) ∧ w10.cell? ⟨gb1189, 1, none⟩ = some (.slice A0_1 l0_1.length c0_1) := hS_
            refine norm_ (a' := ?_) ?_ ?_
            rotate_left
            ·simp only [putAll, Act.put, sA_, sB_, sC_]
             rfl
            refine three_ (i := 3) (j := 4) (k := 9) (Ni := some 10) (Nj := some 11) (Nk := some 5) (bl_ 11 111) (bl_ 11 119) (bl_ 11 615) rfl rfl rfl rfl rfl rfl (three_of HT_.out (by kernel_rfl)) (by decide) (by decide) (by decide) (fun K hK => ?_) (fun K hK => ?_) (fun K hK => ?_)
            ·skip
             refine Kd.R_append_rows_step (Kd.int .i64) (w0 := w) w.heap.size (by rfl) (.tmp 7) (.tmp 9) 23 3 (.int .i64 0) 8 rfl Try.underlying23 info3 rfl (by decide) (by omega) v1192 y1191 l0_0 _ _ _ (fun _ => True) (fun _ => False) rfl rfl ?aO ?aR (fun _ _ h => h) (fun _ h => h.elim) ?aF ?aB ?aS ?aL ?_
             (case aR => exact cb_ HR0_0)
             (case aB => exact hB_)
             (case aF => exact (fun _ _ => trivial))
             (case aO => exact (rr_ HO1193))
             (case aS => exact (bF_ hB_))
             (case aL => have := LMc3.out; omega)
             intro v1195 w11 ho hb hg hat
             rw [← Ny1194.out] at ho
             replace BK1189 := A_ (blk_grown (kk_ BK1189) hg (Kd.R_ne HO1193.out BK1189.out (by decide)))
             replace BK1190 := A_ (blk_grown (kk_ BK1190) hg (Kd.R_ne HO1193.out BK1190.out (by decide)))
             replace HB := A_ hb
             have HO1196 := A_ ho
             clear HO1193
             clear ho hb hg hat
             refine hK.out _ _ ⟨cz0_ BK1189, cz1_ BK1189⟩ (fun hHeld => ?_)
             clear hK K
             refine no_ (some 10) ?_
             exact norm_ (by first | (simp only [putAll, Act.put, sA_, sB_, sC_]; done) | (simp only [putAll, Act.put, sA_, sB_, sC_]; rfl)) (hJ0_3 (v1192, v1195) _ ⟨hHeld, (rr_ HO1196), (kk_ BK1189), (kk_ BK1190), hB_⟩)
            ·skip
             refine Kd.R_lit_step (Kd.int .i64) _ 3 ?hg (N := 11) ?hd (xs := ([] : List Int)) (inner := []) (ok := fun _ => True) (okp := fun _ => True) ?hr ?hp (fun _ hk => hk) trivial (Below.refl _ _) (nA_ _) (by simp) ?_; (case hd => rfl); (case hg => rfl); (case hr => first | (go_simp; done) | (go_simp; rfl)); (case hp => exact (Reps.none _ _))
             intro v1198 w11 ho12 hb hg_ hnew_
             clear hg_ hnew_
             (first | rw [← Ny1197.out] at ho12 | (simp only [Int.reduceToNat] at ho12; rw [← Ny1197.out] at ho12))
             have HO1199 := A_ (rE_ (Kd.R_new' ho12 (Kd.R_lt (rr_ HO1193))) (bF_ hB_))
             replace HO1193 := A_ (Kd.R_elder' (rr_ HO1193) (Kd.R_base ho12) hb)
             replace BK1189 := bb_ BK1189 hb
             replace BK1190 := bb_ BK1190 hb
             replace HB := b1_ hb
             clear hb ho12
             refine hK.out _ _ ⟨cz0_ BK1189, cz1_ BK1189⟩ (fun hHeld => ?_)
             clear hK K
             refine no_ (some 11) ?_
             exact norm_ (by first | (simp only [putAll, Act.put, sA_, sB_, sC_]; done) | (simp only [putAll, Act.put, sA_, sB_, sC_]; rfl)) (hJ0_4 (v1192, v1198) _ ⟨hHeld, (rw_ (Kd.R_mono HO1193.out (fun _ hk => hk.2))), (rw_ (Kd.R_mono HO1199.out (fun _ hk => hk.2))), (kk_ BK1189), (kk_ BK1190), hB_⟩)
            ·skip
             refine box_step ?hg (N := 5) ?hd (cs := #[.slice none 0 0, .slice none 0 0]) (t := 25) ?hr ?_; (case hd => rfl); (case hg => rfl); (case hr => first | (go_simp; done) | (go_simp; rfl))
             intro gb1203 hg w11 hbox hb
             replace HO1193 := rb_ HO1193 hb
             have BK1203 := A_ hbox
             have GW1203 := gw_ w hg
             have GE1203 := GW1203
             replace HB := b1_ hb
             have NB1189_1203 := gN_ BK1189 hg
             have NB1203_1189 := gP_ BK1189 hg
             replace BK1189 := bb_ BK1189 hb
             have NB1190_1203 := gN_ BK1190 hg
             have NB1203_1190 := gP_ BK1190 hg
             replace BK1190 := bb_ BK1190 hb
             clear hb hbox hg
             refine hK.out _ _ ⟨cz0_ BK1189, cz1_ BK1189⟩ (fun hHeld => ?_)
             clear hK K
             refine no_ (some 5) ?_
             exact norm_ (by first | (simp only [putAll, Act.put, sA_, sB_, sC_]; done) | (simp only [putAll, Act.put, sA_, sB_, sC_]; rfl)) (hJ0_9 (v1192, gb1203) _ ⟨hHeld, (rr_ HO1193), (kk_ BK1189), (kk_ BK1190), (kk_ BK1203), GW1203.out, GE1203.out, NB1189_1203.out, NB1203_1189.out, NB1190_1203.out, NB1203_1190.out, hB_⟩)
          ·skip
           rintro ⟨v1198, gb1203⟩ w11 ⟨hS_, h0_, h1_, h2_, h3_, h4_, h5_, h6_, h7_, h8_, h9_, h10_⟩
           have n0_ : Aside0 (Kd.R (Kd.int .i64) 3 w11 w.heap.size (fun _ => True) v1198 y1197) := ⟨h0_⟩
           have n1_ : Aside0 (w11.heap[gb1189]? = some (.cells #[.slice A0_0 l0_0.length c0_0, .slice A0_1 l0_1.length c0_1] 25 (0, 0))) := ⟨h1_⟩
           have n2_ : Aside0 (w11.heap[gb1190]? = some (.cells #[.slice none 0 0, .slice none 0 0] 25 (0, 0))) := ⟨h2_⟩
           have n3_ : Aside0 (w11.heap[gb1203]? = some (.cells #[.slice none 0 0, .slice none 0 0] 25 (0, 0))) := ⟨h3_⟩
           have n4_ : Aside0 (w.heap.size ≤ gb1203) := ⟨h4_⟩
           have n5_ : Aside0 (w.heap.size ≤ gb1203) := ⟨h5_⟩
           have n6_ : Aside0 (gb1189 ≠ gb1203) := ⟨h6_⟩
           have n7_ : Aside0 (gb1203 ≠ gb1189) := ⟨h7_⟩
           have n8_ : Aside0 (gb1190 ≠ gb1203) := ⟨h8_⟩
           have n9_ : Aside0 (gb1203 ≠ gb1190) := ⟨h9_⟩
           have n10_ : Aside0 (Below w.heap.size w w11) := ⟨h10_⟩
           clear BK1189
           clear BK1190
           clear HB
           clear h0_ h1_ h2_ h3_ h4_ h5_ h6_ h7_ h8_ h9_ h10_
           have HO1199 := n0_
           have BK1189 := n1_
           have BK1190 := n2_
           have BK1203 := n3_
           have GW1203 := n4_
           have GE1203 := n5_
           have NB1189_1203 := n6_
           have NB1203_1189 := n7_
           have NB1190_1203 := n8_
           have NB1203_1190 := n9_
           have HB := n10_
           clear n0_ n1_ n2_ n3_ n4_ n5_ n6_ n7_ n8_ n9_ n10_
           have hHeld : w11.cell? ⟨gb1189, 0, none⟩ = some (.slice A0_0 l0_0.length c0_0) ∧ w11.cell? ⟨gb1189, 1, none⟩ = some (.slice A0_1 l0_1.length c0_1) := hS_
           refine norm_ (a' := ?_) ?_ ?_
           rotate_left
           ·simp only [putAll, Act.put, sA_, sB_, sC_]
            rfl
           refine on_ 0 (some 7) (bl_ 11 631) HT_ (fun K hK => ?_)
           refine Kd.R_lit_step (Kd.int .i64) _ 3 ?hg (N := 7) ?hd (xs := ([] : List Int)) (inner := []) (ok := fun _ => True) (okp := fun _ => True) ?hr ?hp (fun _ hk => hk) trivial (Below.refl _ _) (nA_ _) (by simp) ?_; (case hd => rfl); (case hg => rfl); (case hr => first | (go_simp; done) | (go_simp; rfl)); (case hp => exact (Reps.none _ _))
           intro v1192 w12 ho13 hb hg_ hnew_
           clear hg_ hnew_
           (first | rw [← Ny1191.out] at ho13 | (simp only [Int.reduceToNat] at ho13; rw [← Ny1191.out] at ho13))
           have HO1193 := A_ (rE_ (Kd.R_new' ho13 (Kd.R_lt (rr_ HO1199))) (bF_ hB_))
           replace HO1199 := A_ (Kd.R_elder' (rr_ HO1199) (Kd.R_base ho13) hb)
           replace BK1189 := bb_ BK1189 hb
           replace BK1190 := bb_ BK1190 hb
           replace BK1203 := bb_ BK1203 hb
           replace HB := b1_ hb
           clear hb ho13
           refine hK.out _ _ ⟨cz0_ BK1189, cz1_ BK1189⟩ (fun hHeld => ?_)
           clear hK K
           refine no_ (some 7) ?_
           exact norm_ (by first | (simp only [putAll, Act.put, sA_, sB_, sC_]; done) | (simp only [putAll, Act.put, sA_, sB_, sC_]; rfl)) (hJ0_4_9 (v1192, v1198, gb1203) _ ⟨hHeld, (rw_ (Kd.R_mono HO1193.out (fun _ hk => hk.2))), (rw_ (Kd.R_mono HO1199.out (fun _ hk => hk.2))), (kk_ BK1189), (kk_ BK1190), (kk_ BK1203), GW1203.out, GE1203.out, NB1189_1203.out, NB1203_1189.out, NB1190_1203.out, NB1203_1190.out, hB_⟩)
         ·skip
          rintro ⟨v1192, gb1203⟩ w11 ⟨hS_, h0_, h1_, h2_, h3_, h4_, h5_, h6_, h7_, h8_, h9_, h10_⟩
          have n0_ : Aside0 (Kd.R (Kd.int .i64) 3 w11 w.heap.size (fun _ => True) v1192 y1191) := ⟨h0_⟩
          have n1_ : Aside0 (w11.heap[gb1189]? = some (.cells #[.slice A0_0 l0_0.length c0_0, .slice A0_1 l0_1.length c0_1] 25 (0, 0))) := ⟨h1_⟩
          have n2_ : Aside0 (w11.heap[gb1190]? = some (.cells #[.slice none 0 0, .slice none 0 0] 25 (0, 0))) := ⟨h2_⟩
          have n3_ : Aside0 (w11.heap[gb1203]? = some (.cells #[.slice none 0 0, .slice none 0 0] 25 (0, 0))) := ⟨h3_⟩
          have n4_ : Aside0 (w.heap.size ≤ gb1203) := ⟨h4_⟩
          have n5_ : Aside0 (w.heap.size ≤ gb1203) := ⟨h5_⟩
          have n6_ : Aside0 (gb1189 ≠ gb1203) := ⟨h6_⟩
          have n7_ : Aside0 (gb1203 ≠ gb1189) := ⟨h7_⟩
          have n8_ : Aside0 (gb1190 ≠ gb1203) := ⟨h8_⟩
          have n9_ : Aside0 (gb1203 ≠ gb1190) := ⟨h9_⟩
          have n10_ : Aside0 (Below w.heap.size w w11) := ⟨h10_⟩
          clear BK1189
          clear BK1190
          clear HB
          clear h0_ h1_ h2_ h3_ h4_ h5_ h6_ h7_ h8_ h9_ h10_
          have HO1193 := n0_
          have BK1189 := n1_
          have BK1190 := n2_
          have BK1203 := n3_
          have GW1203 := n4_
          have GE1203 := n5_
          have NB1189_1203 := n6_
          have NB1203_1189 := n7_
          have NB1190_1203 := n8_
          have NB1203_1190 := n9_
          have HB := n10_
          clear n0_ n1_ n2_ n3_ n4_ n5_ n6_ n7_ n8_ n9_ n10_
          have hHeld : w11.cell? ⟨gb1189, 0, none⟩ = some (.slice A0_0 l0_0.length c0_0) ∧ w11.cell? ⟨gb1189, 1, none⟩ = some (.slice A0_1 l0_1.length c0_1) := hS_
          refine norm_ (a' := ?_) ?_ ?_
          rotate_left
          ·simp only [putAll, Act.put, sA_, sB_, sC_]
           rfl
          refine two_ (i := 3) (j := 4) (Ni := some 10) (Nj := some 11) (bl_ 11 623) (bl_ 11 631) rfl rfl rfl rfl (two_of HT_.out (by kernel_rfl)) (by decide) (by decide) (fun K hK => ?_) (fun K hK => ?_)
          ·skip
           refine Kd.R_append_rows_step (Kd.int .i64) (w0 := w) w.heap.size (by rfl) (.tmp 7) (.tmp 9) 23 3 (.int .i64 0) 8 rfl Try.underlying23 info3 rfl (by decide) (by omega) v1192 y1191 l0_0 _ _ _ (fun _ => True) (fun _ => False) rfl rfl ?aO ?aR (fun _ _ h => h) (fun _ h => h.elim) ?aF ?aB ?aS ?aL ?_
           (case aR => exact cb_ HR0_0)
           (case aB => exact hB_)
           (case aF => exact (fun _ _ => trivial))
           (case aO => exact (rr_ HO1193))
           (case aS => exact (bF_ hB_))
           (case aL => have := LMc3.out; omega)
           intro v1195 w12 ho hb hg hat
           rw [← Ny1194.out] at ho
           replace BK1189 := A_ (blk_grown (kk_ BK1189) hg (Kd.R_ne HO1193.out BK1189.out (by decide)))
           replace BK1190 := A_ (blk_grown (kk_ BK1190) hg (Kd.R_ne HO1193.out BK1190.out (by decide)))
           replace BK1203 := A_ (blk_grown (kk_ BK1203) hg (Kd.R_ne HO1193.out BK1203.out (by decide)))
           replace HB := A_ hb
           have HO1196 := A_ ho
           clear HO1193
           clear ho hb hg hat
           refine hK.out _ _ ⟨cz0_ BK1189, cz1_ BK1189⟩ (fun hHeld => ?_)
           clear hK K
           refine no_ (some 10) ?_
           exact norm_ (by first | (simp only [putAll, Act.put, sA_, sB_, sC_]; done) | (simp only [putAll, Act.put, sA_, sB_, sC_]; rfl)) (hJ0_3_9 (v1192, v1195, gb1203) _ ⟨hHeld, (rr_ HO1196), (kk_ BK1189), (kk_ BK1190), (kk_ BK1203), GW1203.out, GE1203.out, NB1189_1203.out, NB1203_1189.out, NB1190_1203.out, NB1203_1190.out, hB_⟩)
          ·skip
           refine Kd.R_lit_step (Kd.int .i64) _ 3 ?hg (N := 11) ?hd (xs := ([] : List Int)) (inner := []) (ok := fun _ => True) (okp := fun _ => True) ?hr ?hp (fun _ hk => hk) trivial (Below.refl _ _) (nA_ _) (by simp) ?_; (case hd => rfl); (case hg => rfl); (case hr => first | (go_simp; done) | (go_simp; rfl)); (case hp => exact (Reps.none _ _))
           intro v1198 w12 ho13 hb hg_ hnew_
           clear hg_ hnew_
           (first | rw [← Ny1197.out] at ho13 | (simp only [Int.reduceToNat] at ho13; rw [← Ny1197.out] at ho13))
           have HO1199 := A_ (rE_ (Kd.R_new' ho13 (Kd.R_lt (rr_ HO1193))) (bF_ hB_))
           replace HO1193 := A_ (Kd.R_elder' (rr_ HO1193) (Kd.R_base ho13) hb)
           replace BK1189 := bb_ BK1189 hb
           replace BK1190 := bb_ BK1190 hb
           replace BK1203 := bb_ BK1203 hb
           replace HB := b1_ hb
           clear hb ho13
           refine hK.out _ _ ⟨cz0_ BK1189, cz1_ BK1189⟩ (fun hHeld => ?_)
           clear hK K
           refine no_ (some 11) ?_
           exact norm_ (by first | (simp only [putAll, Act.put, sA_, sB_, sC_]; done) | (simp only [putAll, Act.put, sA_, sB_, sC_]; rfl)) (hJ0_4_9 (v1192, v1198, gb1203) _ ⟨hHeld, (rw_ (Kd.R_mono HO1193.out (fun _ hk => hk.2))), (rw_ (Kd.R_mono HO1199.out (fun _ hk => hk.2))), (kk_ BK1189), (kk_ BK1190), (kk_ BK1203), GW1203.out, GE1203.out, NB1189_1203.out, NB1203_1189.out, NB1190_1203.out, NB1203_1190.out, hB_⟩)
        ·skip
         rintro ⟨v1192, v1198⟩ w12 ⟨hS_, h0_, h1_, h2_, h3_, h4_⟩
         have n0_ : Aside0 (Kd.R (Kd.int .i64) 3 w12 w.heap.size (fun k_ => some k_ ≠ (v1198 : Value).ownBlock) v1192 y1191) := ⟨h0_⟩
         have n1_ : Aside0 (Kd.R (Kd.int .i64) 3 w12 w.heap.size (fun k_ => some k_ ≠ (v1192 : Value).ownBlock) v1198 y1197) := ⟨h1_⟩
         have n2_ : Aside0 (w12.heap[gb1189]? = some (.cells #[.slice A0_0 l0_0.length c0_0, .slice A0_1 l0_1.length c0_1] 25 (0, 0))) := ⟨h2_⟩
         have n3_ : Aside0 (w12.heap[gb1190]? = some (.cells #[.slice none 0 0, .slice none 0 0] 25 (0, 0))) := ⟨h3_⟩
         have n4_ : Aside0 (Below w.heap.size w w12) := ⟨h4_⟩
         clear BK1189
         clear BK1190
         clear HB
         clear h0_ h1_ h2_ h3_ h4_
         have HO1193 := n0_
         have HO1199 := n1_
         have BK1189 := n2_
         have BK1190 := n3_
         have HB := n4_
         clear n0_ n1_ n2_ n3_ n4_
         have hHeld : w12.cell? ⟨gb1189, 0, none⟩ = some (.slice A0_0 l0_0.length c0_0) ∧ w12.cell? ⟨gb1189, 1, none⟩ = some (.slice A0_1 l0_1.length c0_1) := hS_
         refine norm_ (a' := ?_) ?_ ?_
         rotate_left
         ·simp only [putAll, Act.put, sA_, sB_, sC_]
          rfl
         refine two_ (i := 3) (j := 9) (Ni := some 10) (Nj := some 5) (bl_ 11 127) (bl_ 11 631) rfl rfl rfl rfl (two_of HT_.out (by kernel_rfl)) (by decide) (by decide) (fun K hK => ?_) (fun K hK => ?_)
         ·skip
          refine Kd.R_append_rows_step (Kd.int .i64) (w0 := w) w.heap.size (by rfl) (.tmp 7) (.tmp 9) 23 3 (.int .i64 0) 8 rfl Try.underlying23 info3 rfl (by decide) (by omega) v1192 y1191 l0_0 _ _ _ (fun k_ => some k_ ≠ (v1198 : Value).ownBlock) (fun _ => False) rfl rfl ?aO ?aR (fun _ _ h => h) (fun _ h => h.elim) ?aF ?aB ?aS ?aL ?_
          (case aR => exact cb_ HR0_0)
          (case aB => exact hB_)
          (case aF => exact (fun k_ hk => Kd.fresh' (Kd.R_lt (rr_ HO1199)) k_ hk))
          (case aO => exact (rr_ HO1193))
          (case aS => exact (bF_ hB_))
          (case aL => have := LMc3.out; omega)
          intro v1195 w13 ho hb hg hat
          rw [← Ny1194.out] at ho
          replace BK1189 := A_ (blk_grown (kk_ BK1189) hg (Kd.R_ne HO1193.out BK1189.out (by decide)))
          replace BK1190 := A_ (blk_grown (kk_ BK1190) hg (Kd.R_ne HO1193.out BK1190.out (by decide)))
          replace HO1199 := A_ (Kd.R_after (ok := (fun _ => True)) (rw_ (Kd.R_mono HO1199.out (fun _ hk => ⟨trivial, hk⟩))) hg hat)
          replace HB := A_ hb
          have HO1196 := A_ ho
          clear HO1193
          clear ho hb hg hat
          refine hK.out _ _ ⟨cz0_ BK1189, cz1_ BK1189⟩ (fun hHeld => ?_)
          clear hK K
          refine no_ (some 10) ?_
          exact norm_ (by first | (simp only [putAll, Act.put, sA_, sB_, sC_]; done) | (simp only [putAll, Act.put, sA_, sB_, sC_]; rfl)) (hJ0_3_4 (v1192, v1195, v1198) _ ⟨hHeld, (rr_ HO1196), (rw_ (Kd.R_mono HO1199.out (fun _ hk => hk.2))), (kk_ BK1189), (kk_ BK1190), hB_⟩)
         ·skip
          refine box_step ?hg (N := 5) ?hd (cs := #[.slice none 0 0, .slice none 0 0]) (t := 25) ?hr ?_; (case hd => rfl); (case hg => rfl); (case hr => first | (go_simp; done) | (go_simp; rfl))
          intro gb1203 hg w13 hbox hb
          replace HO1193 := rb_ HO1193 hb
          replace HO1199 := rb_ HO1199 hb
          have BK1203 := A_ hbox
          have GW1203 := gw_ w hg
          have GE1203 := GW1203
          replace HB := b1_ hb
          have NB1189_1203 := gN_ BK1189 hg
          have NB1203_1189 := gP_ BK1189 hg
          replace BK1189 := bb_ BK1189 hb
          have NB1190_1203 := gN_ BK1190 hg
          have NB1203_1190 := gP_ BK1190 hg
          replace BK1190 := bb_ BK1190 hb
          clear hb hbox hg
          refine hK.out _ _ ⟨cz0_ BK1189, cz1_ BK1189⟩ (fun hHeld => ?_)
          clear hK K
          refine no_ (some 5) ?_
          exact norm_ (by first | (simp only [putAll, Act.put, sA_, sB_, sC_]; done) | (simp only [putAll, Act.put, sA_, sB_, sC_]; rfl)) (hJ0_4_9 (v1192, v1198, gb1203) _ ⟨hHeld, (rr_ HO1193), (rr_ HO1199), (kk_ BK1189), (kk_ BK1190), (kk_ BK1203), GW1203.out, GE1203.out, NB1189_1203.out, NB1203_1189.out, NB1190_1203.out, NB1203_1190.out, hB_⟩)
       ·skip
        rintro ⟨v1192, v1195⟩ w11 ⟨hS_, h0_, h1_, h2_, h3_⟩
        have n0_ : Aside0 (Kd.R (Kd.int .i64) 3 w11 w.heap.size (fun _ => True) v1195 y1194) := ⟨h0_⟩
        have n1_ : Aside0 (w11.heap[gb1189]? = some (.cells #[.slice A0_0 l0_0.length c0_0, .slice A0_1 l0_1.length c0_1] 25 (0, 0))) := ⟨h1_⟩
        have n2_ : Aside0 (w11.heap[gb1190]? = some (.cells #[.slice none 0 0, .slice none 0 0] 25 (0, 0))) := ⟨h2_⟩
        have n3_ : Aside0 (Below w.heap.size w w11) := ⟨h3_⟩
        clear BK1189
        clear BK1190
        clear HB
        clear h0_ h1_ h2_ h3_
        have HO1196 := n0_
        have BK1189 := n1_
        have BK1190 := n2_
        have HB := n3_
        clear n0_ n1_ n2_ n3_
        have hHeld : w11.cell? ⟨gb1189, 0, none⟩ = some (.slice A0_0 l0_0.length c0_0) ∧ w11.cell? ⟨gb1189, 1, none⟩ = some (.slice A0_1 l0_1.length c0_1) := hS_
        refine norm_ (a' := ?_) ?_ ?_
        rotate_left
        ·simp only [putAll, Act.put, sA_, sB_, sC_]
         rfl
        refine two_ (i := 4) (j := 9) (Ni := some 11) (Nj := some 5) (bl_ 11 127) (bl_ 11 623) rfl rfl rfl rfl (two_of HT_.out (by kernel_rfl)) (by decide) (by decide) (fun K hK => ?_) (fun K hK => ?_)
        ·skip
         refine Kd.R_lit_step (Kd.int .i64) _ 3 ?hg (N := 11) ?hd (xs := ([] : List Int)) (inner := []) (ok := fun _ => True) (okp := fun _ => True) ?hr ?hp (fun _ hk => hk) trivial (Below.refl _ _) (nA_ _) (by simp) ?_; (case hd => rfl); (case hg => rfl); (case hr => first | (go_simp; done) | (go_simp; rfl)); (case hp => exact (Reps.none _ _))
         intro v1198 w12 ho13 hb hg_ hnew_
         clear hg_ hnew_
         (first | rw [← Ny1197.out] at ho13 | (simp only [Int.reduceToNat] at ho13; rw [← Ny1197.out] at ho13))
         have HO1199 := A_ (rE_ (Kd.R_new' ho13 (Kd.R_lt (rr_ HO1196))) (bF_ hB_))
         replace HO1196 := A_ (Kd.R_elder' (rr_ HO1196) (Kd.R_base ho13) hb)
         replace BK1189 := bb_ BK1189 hb
         replace BK1190 := bb_ BK1190 hb
         replace HB := b1_ hb
         clear hb ho13
         refine hK.out _ _ ⟨cz0_ BK1189, cz1_ BK1189⟩ (fun hHeld => ?_)
         clear hK K
         refine no_ (some 11) ?_
         exact norm_ (by first | (simp only [putAll, Act.put, sA_, sB_, sC_]; done) | (simp only [putAll, Act.put, sA_, sB_, sC_]; rfl)) (hJ0_3_4 (v1192, v1195, v1198) _ ⟨hHeld, (rw_ (Kd.R_mono HO1196.out (fun _ hk => hk.2))), (rw_ (Kd.R_mono HO1199.out (fun _ hk => hk.2))), (kk_ BK1189), (kk_ BK1190), hB_⟩)
        ·skip
         refine box_step ?hg (N := 5) ?hd (cs := #[.slice none 0 0, .slice none 0 0]) (t := 25) ?hr ?_; (case hd => rfl); (case hg => rfl); (case hr => first | (go_simp; done) | (go_simp; rfl))
         intro gb1203 hg w12 hbox hb
         replace HO1196 := rb_ HO1196 hb
         have BK1203 := A_ hbox
         have GW1203 := gw_ w hg
         have GE1203 := GW1203
         replace HB := b1_ hb
         have NB1189_1203 := gN_ BK1189 hg
         have NB1203_1189 := gP_ BK1189 hg
         replace BK1189 := bb_ BK1189 hb
         have NB1190_1203 := gN_ BK1190 hg
         have NB1203_1190 := gP_ BK1190 hg
         replace BK1190 := bb_ BK1190 hb
         clear hb hbox hg
         refine hK.out _ _ ⟨cz0_ BK1189, cz1_ BK1189⟩ (fun hHeld => ?_)
         clear hK K
         refine no_ (some 5) ?_
         exact norm_ (by first | (simp only [putAll, Act.put, sA_, sB_, sC_]; done) | (simp only [putAll, Act.put, sA_, sB_, sC_]; rfl)) (hJ0_3_9 (v1192, v1195, gb1203) _ ⟨hHeld, (rr_ HO1196), (kk_ BK1189), (kk_ BK1190), (kk_ BK1203), GW1203.out, GE1203.out, NB1189_1203.out, NB1203_1189.out, NB1190_1203.out, NB1203_1190.out, hB_⟩)
      ·skip
       rintro ⟨v1192, v1198, gb1203⟩ w13 ⟨hS_, h0_, h1_, h2_, h3_, h4_, h5_, h6_, h7_, h8_, h9_, h10_, h11_⟩
       have n0_ : Aside0 (Kd.R (Kd.int .i64) 3 w13 w.heap.size (fun k_ => some k_ ≠ (v1198 : Value).ownBlock) v1192 y1191) := ⟨h0_⟩
       have n1_ : Aside0 (Kd.R (Kd.int .i64) 3 w13 w.heap.size (fun k_ => some k_ ≠ (v1192 : Value).ownBlock) v1198 y1197) := ⟨h1_⟩
       have n2_ : Aside0 (w13.heap[gb1189]? = some (.cells #[.slice A0_0 l0_0.length c0_0, .slice A0_1 l0_1.length c0_1] 25 (0, 0))) := ⟨h2_⟩
       have n3_ : Aside0 (w13.heap[gb1190]? = some (.cells #[.slice none 0 0, .slice none 0 0] 25 (0, 0))) := ⟨h3_⟩
       have n4_ : Aside0 (w13.heap[gb1203]? = some (.cells #[.slice none 0 0, .slice none 0 0] 25 (0, 0))) := ⟨h4_⟩
       have n5_ : Aside0 (w.heap.size ≤ gb1203) := ⟨h5_⟩
       have n6_ : Aside0 (w.heap.size ≤ gb1203) := ⟨h6_⟩
       have n7_ : Aside0 (gb1189 ≠ gb1203) := ⟨h7_⟩
       have n8_ : Aside0 (gb1203 ≠ gb1189) := ⟨h8_⟩
       have n9_ : Aside0 (gb1190 ≠ gb1203) := ⟨h9_⟩
       have n10_ : Aside0 (gb1203 ≠ gb1190) := ⟨h10_⟩
       have n11_ : Aside0 (Below w.heap.size w w13) := ⟨h11_⟩
       clear BK1189
       clear BK1190
       clear HB
       clear h0_ h1_ h2_ h3_ h4_ h5_ h6_ h7_ h8_ h9_ h10_ h11_
       have HO1193 := n0_
       have HO1199 := n1_
       have BK1189 := n2_
       have BK1190 := n3_
       have BK1203 := n4_
       have GW1203 := n5_
       have GE1203 := n6_
       have NB1189_1203 := n7_
       have NB1203_1189 := n8_
       have NB1190_1203 := n9_
       have NB1203_1190 := n10_
       have HB := n11_
       clear n0_ n1_ n2_ n3_ n4_ n5_ n6_ n7_ n8_ n9_ n10_ n11_
       have hHeld : w13.cell? ⟨gb1189, 0, none⟩ = some (.slice A0_0 l0_0.length c0_0) ∧ w13.cell? ⟨gb1189, 1, none⟩ = some (.slice A0_1 l0_1.length c0_1) := hS_
       refine norm_ (a' := ?_) ?_ ?_
       rotate_left
       ·simp only [putAll, Act.put, sA_, sB_, sC_]
        rfl
       refine on_ 3 (some 10) (bl_ 11 639) HT_ (fun K hK => ?_)
       refine Kd.R_append_rows_step (Kd.int .i64) (w0 := w) w.heap.size (by rfl) (.tmp 7) (.tmp 9) 23 3 (.int .i64 0) 8 rfl Try.underlying23 info3 rfl (by decide) (by omega) v1192 y1191 l0_0 _ _ _ (fun k_ => some k_ ≠ (v1198 : Value).ownBlock) (fun _ => False) rfl rfl ?aO ?aR (fun _ _ h => h) (fun _ h => h.elim) ?aF ?aB ?aS ?aL ?_
       (case aR => exact cb_ HR0_0)
       (case aB => exact hB_)
       (case aF => exact (fun k_ hk => Kd.fresh' (Kd.R_lt (rr_ HO1199)) k_ hk))
       (case aO => exact (rr_ HO1193))
       (case aS => exact (bF_ hB_))
       (case aL => have := LMc3.out; omega)
       intro v1195 w14 ho hb hg hat
       rw [← Ny1194.out] at ho
       replace BK1189 := A_ (blk_grown (kk_ BK1189) hg (Kd.R_ne HO1193.out BK1189.out (by decide)))
       replace BK1190 := A_ (blk_grown (kk_ BK1190) hg (Kd.R_ne HO1193.out BK1190.out (by decide)))
       replace HO1199 := A_ (Kd.R_after (ok := (fun _ => True)) (rw_ (Kd.R_mono HO1199.out (fun _ hk => ⟨trivial, hk⟩))) hg hat)
       replace BK1203 := A_ (blk_grown (kk_ BK1203) hg (Kd.R_ne HO1193.out BK1203.out (by decide)))
       replace HB := A_ hb
       have HO1196 := A_ ho
       clear HO1193
       clear ho hb hg hat
       refine hK.out _ _ ⟨cz0_ BK1189, cz1_ BK1189⟩ (fun hHeld => ?_)
       clear hK K
       refine no_ (some 10) ?_
       exact norm_ (by first | (simp only [putAll, Act.put, sA_, sB_, sC_]; done) | (simp only [putAll, Act.put, sA_, sB_, sC_]; rfl)) (hJ0_3_4_9 (v1192, v1195, v1198, gb1203) _ ⟨hHeld, (rr_ HO1196), (rw_ (Kd.R_mono HO1199.out (fun _ hk => hk.2))), (kk_ BK1189), (kk_ BK1190), (kk_ BK1203), GW1203.out, GE1203.out, NB1189_1203.out, NB1203_1189.out, NB1190_1203.out, NB1203_1190.out, hB_⟩)
     ·skip
      rintro ⟨v1192, v1195, gb1203⟩ w12 ⟨hS_, h0_, h1_, h2_, h3_, h4_, h5_, h6_, h7_, h8_, h9_, h10_⟩
      have n0_ : Aside0 (Kd.R (Kd.int .i64) 3 w12 w.heap.size (fun _ => True) v1195 y1194) := ⟨h0_⟩
      have n1_ : Aside0 (w12.heap[gb1189]? = some (.cells #[.slice A0_0 l0_0.length c0_0, .slice A0_1 l0_1.length c0_1] 25 (0, 0))) := ⟨h1_⟩
      have n2_ : Aside0 (w12.heap[gb1190]? = some (.cells #[.slice none 0 0, .slice none 0 0] 25 (0, 0))) := ⟨h2_⟩
      have n3_ : Aside0 (w12.heap[gb1203]? = some (.cells #[.slice none 0 0, .slice none 0 0] 25 (0, 0))) := ⟨h3_⟩
      have n4_ : Aside0 (w.heap.size ≤ gb1203) := ⟨h4_⟩
      have n5_ : Aside0 (w.heap.size ≤ gb1203) := ⟨h5_⟩
      have n6_ : Aside0 (gb1189 ≠ gb1203) := ⟨h6_⟩
      have n7_ : Aside0 (gb1203 ≠ gb1189) := ⟨h7_⟩
      have n8_ : Aside0 (gb1190 ≠ gb1203) := ⟨h8_⟩
      have n9_ : Aside0 (gb1203 ≠ gb1190) := ⟨h9_⟩
      have n10_ : Aside0 (Below w.heap.size w w12) := ⟨h10_⟩
      clear BK1189
      clear BK1190
      clear HB
      clear h0_ h1_ h2_ h3_ h4_ h5_ h6_ h7_ h8_ h9_ h10_
      have HO1196 := n0_
      have BK1189 := n1_
      have BK1190 := n2_
      have BK1203 := n3_
      have GW1203 := n4_
      have GE1203 := n5_
      have NB1189_1203 := n6_
      have NB1203_1189 := n7_
      have NB1190_1203 := n8_
      have NB1203_1190 := n9_
      have HB := n10_
      clear n0_ n1_ n2_ n3_ n4_ n5_ n6_ n7_ n8_ n9_ n10_
      have hHeld : w12.cell? ⟨gb1189, 0, none⟩ = some (.slice A0_0 l0_0.length c0_0) ∧ w12.cell? ⟨gb1189, 1, none⟩ = some (.slice A0_1 l0_1.length c0_1) := hS_
      refine norm_ (a' := ?_) ?_ ?_
      rotate_left
      ·simp only [putAll, Act.put, sA_, sB_, sC_]
       rfl
      refine on_ 4 (some 11) (bl_ 11 639) HT_ (fun K hK => ?_)
      refine Kd.R_lit_step (Kd.int .i64) _ 3 ?hg (N := 11) ?hd (xs := ([] : List Int)) (inner := []) (ok := fun _ => True) (okp := fun _ => True) ?hr ?hp (fun _ hk => hk) trivial (Below.refl _ _) (nA_ _) (by simp) ?_; (case hd => rfl); (case hg => rfl); (case hr => first | (go_simp; done) | (go_simp; rfl)); (case hp => exact (Reps.none _ _))
      intro v1198 w13 ho14 hb hg_ hnew_
      clear hg_ hnew_
      (first | rw [← Ny1197.out] at ho14 | (simp only [Int.reduceToNat] at ho14; rw [← Ny1197.out] at ho14))
      have HO1199 := A_ (rE_ (Kd.R_new' ho14 (Kd.R_lt (rr_ HO1196))) (bF_ hB_))
      replace HO1196 := A_ (Kd.R_elder' (rr_ HO1196) (Kd.R_base ho14) hb)
      replace BK1189 := bb_ BK1189 hb
      replace BK1190 := bb_ BK1190 hb
      replace BK1203 := bb_ BK1203 hb
      replace HB := b1_ hb
      clear hb ho14
      refine hK.out _ _ ⟨cz0_ BK1189, cz1_ BK1189⟩ (fun hHeld => ?_)
      clear hK K
      refine no_ (some 11) ?_
      exact norm_ (by first | (simp only [putAll, Act.put, sA_, sB_, sC_]; done) | (simp only [putAll, Act.put, sA_, sB_, sC_]; rfl)) (hJ0_3_4_9 (v1192, v1195, v1198, gb1203) _ ⟨hHeld, (rw_ (Kd.R_mono HO1196.out (fun _ hk => hk.2))), (rw_ (Kd.R_mono HO1199.out (fun _ hk => hk.2))), (kk_ BK1189), (kk_ BK1190), (kk_ BK1203), GW1203.out, GE1203.out, NB1189_1203.out, NB1203_1189.out, NB1190_1203.out, NB1203_1190.out, hB_⟩)
    ·skip
     rintro ⟨v1192, v1195, v1198⟩ w13 ⟨hS_, h0_, h1_, h2_, h3_, h4_⟩
     have n0_ : Aside0 (Kd.R (Kd.int .i64) 3 w13 w.heap.size (fun k_ => some k_ ≠ (v1198 : Value).ownBlock) v1195 y1194) := ⟨h0_⟩
     have n1_ : Aside0 (Kd.R (Kd.int .i64) 3 w13 w.heap.size (fun k_ => some k_ ≠ (v1195 : Value).ownBlock) v1198 y1197) := ⟨h1_⟩
     have n2_ : Aside0 (w13.heap[gb1189]? = some (.cells #[.slice A0_0 l0_0.length c0_0, .slice A0_1 l0_1.length c0_1] 25 (0, 0))) := ⟨h2_⟩
     have n3_ : Aside0 (w13.heap[gb1190]? = some (.cells #[.slice none 0 0, .slice none 0 0] 25 (0, 0))) := ⟨h3_⟩
     have n4_ : Aside0 (Below w.heap.size w w13) := ⟨h4_⟩
     clear BK1189
     clear BK1190
     clear HB
     clear h0_ h1_ h2_ h3_ h4_
     have HO1196 := n0_
     have HO1199 := n1_
     have BK1189 := n2_
     have BK1190 := n3_
     have HB := n4_
     clear n0_ n1_ n2_ n3_ n4_
     have hHeld : w13.cell? ⟨gb1189, 0, none⟩ = some (.slice A0_0 l0_0.length c0_0) ∧ w13.cell? ⟨gb1189, 1, none⟩ = some (.slice A0_1 l0_1.length c0_1) := hS_
     refine norm_ (a' := ?_) ?_ ?_
     rotate_left
     ·simp only [putAll, Act.put, sA_, sB_, sC_]
      rfl
     refine two_ (i := 7) (j := 9) (Ni := some 14) (Nj := some 5) (bl_ 11 255) (bl_ 11 639) rfl rfl rfl rfl (two_of HT_.out (by kernel_rfl)) (by decide) (by decide) (fun K hK => ?_) (fun K hK => ?_)
     ·skip
      refine Kd.R_append_rows_step (Kd.int .i64) (w0 := w) w.heap.size (by rfl) (.tmp 11) (.tmp 13) 23 3 (.int .i64 0) 8 rfl Try.underlying23 info3 rfl (by decide) (by omega) v1198 y1197 l0_1 _ _ _ (fun k_ => some k_ ≠ (v1195 : Value).ownBlock) (fun _ => False) rfl rfl ?aO ?aR (fun _ _ h => h) (fun _ h => h.elim) ?aF ?aB ?aS ?aL ?_
      (case aR => exact cb_ HR0_1)
      (case aB => exact hB_)
      (case aF => exact (fun k_ hk => Kd.fresh' (Kd.R_lt (rr_ HO1196)) k_ hk))
      (case aO => exact (rr_ HO1199))
      (case aS => exact (bF_ hB_))
      (case aL => have := LMc4.out; omega)
      intro v1201 w14 ho hb hg hat
      rw [← Ny1200.out] at ho
      replace BK1189 := A_ (blk_grown (kk_ BK1189) hg (Kd.R_ne HO1199.out BK1189.out (by decide)))
      replace BK1190 := A_ (blk_grown (kk_ BK1190) hg (Kd.R_ne HO1199.out BK1190.out (by decide)))
      replace HO1196 := A_ (Kd.R_after (ok := (fun _ => True)) (rw_ (Kd.R_mono HO1196.out (fun _ hk => ⟨trivial, hk⟩))) hg hat)
      replace HB := A_ hb
      have HO1202 := A_ ho
      clear HO1199
      clear ho hb hg hat
      obtain ⟨Ao15, co15, eo15⟩ := Kd.R_slice HO1202.out
      (first | subst eo15 | (injection eo15 with f1_ f2_ f3_; have f4_ := f1_.symm; have f5_ := f3_.symm; clear f1_ f2_ f3_; subst f4_; subst f5_))
      obtain ⟨Ao16, co16, eo16⟩ := Kd.R_slice HO1196.out
      (first | subst eo16 | (injection eo16 with f1_ f2_ f3_; have f4_ := f1_.symm; have f5_ := f3_.symm; clear f1_ f2_ f3_; subst f4_; subst f5_))
      refine hK.out _ _ ⟨cz0_ BK1189, cz1_ BK1189⟩ (fun hHeld => ?_)
      clear hK K
      refine no_ (some 14) ?_
      refine pu_ 8 (some 15) (bl_ 11 511) HT_ ?_
      exact norm_ (by first | (simp only [putAll, Act.put, sA_, sB_, sC_]; done) | (simp only [putAll, Act.put, sA_, sB_, sC_]; rfl)) (hJ0_3_4_7 (v1192, .slice Ao16 y1194.length co16, v1198, .slice Ao15 y1200.length co15) _ ⟨hHeld, (rw_ (Kd.R_mono HO1196.out (fun _ hk => hk.2))), (rr_ HO1202), (kk_ BK1189), (kk_ BK1190), hB_⟩)
     ·skip
      refine box_step ?hg (N := 5) ?hd (cs := #[.slice none 0 0, .slice none 0 0]) (t := 25) ?hr ?_; (case hd => rfl); (case hg => rfl); (case hr => first | (go_simp; done) | (go_simp; rfl))
      intro gb1203 hg w14 hbox hb
      replace HO1196 := rb_ HO1196 hb
      replace HO1199 := rb_ HO1199 hb
      have BK1203 := A_ hbox
      have GW1203 := gw_ w hg
      have GE1203 := GW1203
      replace HB := b1_ hb
      have NB1189_1203 := gN_ BK1189 hg
      have NB1203_1189 := gP_ BK1189 hg
      replace BK1189 := bb_ BK1189 hb
      have NB1190_1203 := gN_ BK1190 hg
      have NB1203_1190 := gP_ BK1190 hg
      replace BK1190 := bb_ BK1190 hb
      clear hb hbox hg
      refine hK.out _ _ ⟨cz0_ BK1189, cz1_ BK1189⟩ (fun hHeld => ?_)
      clear hK K
      refine no_ (some 5) ?_
      exact norm_ (by first | (simp only [putAll, Act.put, sA_, sB_, sC_]; done) | (simp only [putAll, Act.put, sA_, sB_, sC_]; rfl)) (hJ0_3_4_9 (v1192, v1195, v1198, gb1203) _ ⟨hHeld, (rr_ HO1196), (rr_ HO1199), (kk_ BK1189), (kk_ BK1190), (kk_ BK1203), GW1203.out, GE1203.out, NB1189_1203.out, NB1203_1189.out, NB1190_1203.out, NB1203_1190.out, hB_⟩)
   ·skip
    rintro ⟨v1192, v1195, v1198, gb1203⟩ w14 ⟨hS_, h0_, h1_, h2_, h3_, h4_, h5_, h6_, h7_, h8_, h9_, h10_, h11_⟩
    have n0_ : Aside0 (Kd.R (Kd.int .i64) 3 w14 w.heap.size (fun k_ => some k_ ≠ (v1198 : Value).ownBlock) v1195 y1194) := ⟨h0_⟩
    have n1_ : Aside0 (Kd.R (Kd.int .i64) 3 w14 w.heap.size (fun k_ => some k_ ≠ (v1195 : Value).ownBlock) v1198 y1197) := ⟨h1_⟩
    have n2_ : Aside0 (w14.heap[gb1189]? = some (.cells #[.slice A0_0 l0_0.length c0_0, .slice A0_1 l0_1.length c0_1] 25 (0, 0))) := ⟨h2_⟩
    have n3_ : Aside0 (w14.heap[gb1190]? = some (.cells #[.slice none 0 0, .slice none 0 0] 25 (0, 0))) := ⟨h3_⟩
    have n4_ : Aside0 (w14.heap[gb1203]? = some (.cells #[.slice none 0 0, .slice none 0 0] 25 (0, 0))) := ⟨h4_⟩
    have n5_ : Aside0 (w.heap.size ≤ gb1203) := ⟨h5_⟩
    have n6_ : Aside0 (w.heap.size ≤ gb1203) := ⟨h6_⟩
    have n7_ : Aside0 (gb1189 ≠ gb1203) := ⟨h7_⟩
    have n8_ : Aside0 (gb1203 ≠ gb1189) := ⟨h8_⟩
    have n9_ : Aside0 (gb1190 ≠ gb1203) := ⟨h9_⟩
    have n10_ : Aside0 (gb1203 ≠ gb1190) := ⟨h10_⟩
    have n11_ : Aside0 (Below w.heap.size w w14) := ⟨h11_⟩
    clear BK1189
    clear BK1190
    clear HB
    clear h0_ h1_ h2_ h3_ h4_ h5_ h6_ h7_ h8_ h9_ h10_ h11_
    have HO1196 := n0_
    have HO1199 := n1_
    have BK1189 := n2_
    have BK1190 := n3_
    have BK1203 := n4_
    have GW1203 := n5_
    have GE1203 := n6_
    have NB1189_1203 := n7_
    have NB1203_1189 := n8_
    have NB1190_1203 := n9_
    have NB1203_1190 := n10_
    have HB := n11_
    clear n0_ n1_ n2_ n3_ n4_ n5_ n6_ n7_ n8_ n9_ n10_ n11_
    have hHeld : w14.cell? ⟨gb1189, 0, none⟩ = some (.slice A0_0 l0_0.length c0_0) ∧ w14.cell? ⟨gb1189, 1, none⟩ = some (.slice A0_1 l0_1.length c0_1) := hS_
    refine norm_ (a' := ?_) ?_ ?_
    rotate_left
    ·simp only [putAll, Act.put, sA_, sB_, sC_]
     rfl
    refine on_ 7 (some 14) (bl_ 11 767) HT_ (fun K hK => ?_)
    refine Kd.R_append_rows_step (Kd.int .i64) (w0 := w) w.heap.size (by rfl) (.tmp 11) (.tmp 13) 23 3 (.int .i64 0) 8 rfl Try.underlying23 info3 rfl (by decide) (by omega) v1198 y1197 l0_1 _ _ _ (fun k_ => some k_ ≠ (v1195 : Value).ownBlock) (fun _ => False) rfl rfl ?aO ?aR (fun _ _ h => h) (fun _ h => h.elim) ?aF ?aB ?aS ?aL ?_
    (case aR => exact cb_ HR0_1)
    (case aB => exact hB_)
    (case aF => exact (fun k_ hk => Kd.fresh' (Kd.R_lt (rr_ HO1196)) k_ hk))
    (case aO => exact (rr_ HO1199))
    (case aS => exact (bF_ hB_))
    (case aL => have := LMc4.out; omega)
    intro v1201 w15 ho hb hg hat
    rw [← Ny1200.out] at ho
    replace BK1189 := A_ (blk_grown (kk_ BK1189) hg (Kd.R_ne HO1199.out BK1189.out (by decide)))
    replace BK1190 := A_ (blk_grown (kk_ BK1190) hg (Kd.R_ne HO1199.out BK1190.out (by decide)))
    replace HO1196 := A_ (Kd.R_after (ok := (fun _ => True)) (rw_ (Kd.R_mono HO1196.out (fun _ hk => ⟨trivial, hk⟩))) hg hat)
    replace BK1203 := A_ (blk_grown (kk_ BK1203) hg (Kd.R_ne HO1199.out BK1203.out (by decide)))
    replace HB := A_ hb
    have HO1202 := A_ ho
    clear HO1199
    clear ho hb hg hat
    obtain ⟨Ao16, co16, eo16⟩ := Kd.R_slice HO1202.out
    (first | subst eo16 | (injection eo16 with f1_ f2_ f3_; have f4_ := f1_.symm; have f5_ := f3_.symm; clear f1_ f2_ f3_; subst f4_; subst f5_))
    obtain ⟨Ao17, co17, eo17⟩ := Kd.R_slice HO1196.out
    (first | subst eo17 | (injection eo17 with f1_ f2_ f3_; have f4_ := f1_.symm; have f5_ := f3_.symm; clear f1_ f2_ f3_; subst f4_; subst f5_))
    refine hK.out _ _ ⟨cz0_ BK1189, cz1_ BK1189⟩ (fun hHeld => ?_)
    clear hK K
    refine no_ (some 14) ?_
    refine pu_ 8 (some 15) (bl_ 11 1023) HT_ ?_
    exact norm_ (by first | (simp only [putAll, Act.put, sA_, sB_, sC_]; done) | (simp only [putAll, Act.put, sA_, sB_, sC_]; rfl)) (hJ0_3_4_7_9 (v1192, .slice Ao17 y1194.length co17, v1198, .slice Ao16 y1200.length co16, gb1203) _ ⟨hHeld, (rw_ (Kd.R_mono HO1196.out (fun _ hk => hk.2))), (rr_ HO1202), (kk_ BK1189), (kk_ BK1190), (kk_ BK1203), GW1203.out, GE1203.out, NB1189_1203.out, NB1203_1189.out, NB1190_1203.out, NB1203_1190.out, hB_⟩)
  ·skip
   rintro ⟨v1192, v1195, v1198, v1201⟩ w16 ⟨hS_, h0_, h1_, h2_, h3_, h4_⟩
   have n0_ : Aside0 (Kd.R (Kd.int .i64) 3 w16 w.heap.size (fun k_ => some k_ ≠ (v1201 : Value).ownBlock) v1195 y1194) := ⟨h0_⟩
   have n1_ : Aside0 (Kd.R (Kd.int .i64) 3 w16 w.heap.size (fun k_ => some k_ ≠ (v1195 : Value).ownBlock) v1201 y1200) := ⟨h1_⟩
   have n2_ : Aside0 (w16.heap[gb1189]? = some (.cells #[.slice A0_0 l0_0.length c0_0, .slice A0_1 l0_1.length c0_1] 25 (0, 0))) := ⟨h2_⟩
   have n3_ : Aside0 (w16.heap[gb1190]? = some (.cells #[.slice none 0 0, .slice none 0 0] 25 (0, 0))) := ⟨h3_⟩
   have n4_ : Aside0 (Below w.heap.size w w16) := ⟨h4_⟩
   clear BK1189
   clear BK1190
   clear HB
   clear h0_ h1_ h2_ h3_ h4_
   have HO1196 := n0_
   have HO1202 := n1_
   have BK1189 := n2_
   have BK1190 := n3_
   have HB := n4_
   clear n0_ n1_ n2_ n3_ n4_
   have hHeld : w16.cell? ⟨gb1189, 0, none⟩ = some (.slice A0_0 l0_0.length c0_0) ∧ w16.cell? ⟨gb1189, 1, none⟩ = some (.slice A0_1 l0_1.length c0_1) := hS_
   obtain ⟨Ao17, co17, eo17⟩ := Kd.R_slice HO1202.out
   (first | subst eo17 | (injection eo17 with f1_ f2_ f3_; have f4_ := f1_.symm; have f5_ := f3_.symm; clear f1_ f2_ f3_; subst f4_; subst f5_))
   obtain ⟨Ao18, co18, eo18⟩ := Kd.R_slice HO1196.out
   (first | subst eo18 | (injection eo18 with f1_ f2_ f3_; have f4_ := f1_.symm; have f5_ := f3_.symm; clear f1_ f2_ f3_; subst f4_; subst f5_))
   refine norm_ (a' := ?_) ?_ ?_
   rotate_left
   ·simp only [putAll, Act.put, sA_, sB_, sC_]
    rfl
   refine on_ 9 (some 5) (bl_ 11 1023) HT_ (fun K hK => ?_)
   refine box_step ?hg (N := 5) ?hd (cs := #[.slice none 0 0, .slice none 0 0]) (t := 25) ?hr ?_; (case hd => rfl); (case hg => rfl); (case hr => first | (go_simp; done) | (go_simp; rfl))
   intro gb1203 hg w19 hbox hb
   replace HO1196 := rb_ HO1196 hb
   replace HO1202 := rb_ HO1202 hb
   have BK1203 := A_ hbox
   have GW1203 := gw_ w hg
   have GE1203 := GW1203
   replace HB := b1_ hb
   have NB1189_1203 := gN_ BK1189 hg
   have NB1203_1189 := gP_ BK1189 hg
   replace BK1189 := bb_ BK1189 hb
   have NB1190_1203 := gN_ BK1190 hg
   have NB1203_1190 := gP_ BK1190 hg
   replace BK1190 := bb_ BK1190 hb
   clear hb hbox hg
   refine hK.out _ _ ⟨cz0_ BK1189, cz1_ BK1189⟩ (fun hHeld => ?_)
   clear hK K
   refine no_ (some 5) ?_
   exact norm_ (by first | (simp only [putAll, Act.put, sA_, sB_, sC_]; done) | (simp only [putAll, Act.put, sA_, sB_, sC_]; rfl)) (hJ0_3_4_7_9 (v1192, .slice Ao18 y1194.length co18, v1198, .slice Ao17 y1200.length co17, gb1203) _ ⟨hHeld, (rr_ HO1196), (rr_ HO1202), (kk_ BK1189), (kk_ BK1190), (kk_ BK1203), GW1203.out, GE1203.out, NB1189_1203.out, NB1203_1189.out, NB1190_1203.out, NB1203_1190.out, hB_⟩)
 rintro ⟨v1192, v1195, v1198, v1201, gb1203⟩ w17 ⟨hS_, h0_, h1_, h2_, h3_, h4_, h5_, h6_, h7_, h8_, h9_, h10_, h11_⟩
 have n0_ : Aside0 (Kd.R (Kd.int .i64) 3 w17 w.heap.size (fun k_ => some k_ ≠ (v1201 : Value).ownBlock) v1195 y1194) := ⟨h0_⟩
 have n1_ : Aside0 (Kd.R (Kd.int .i64) 3 w17 w.heap.size (fun k_ => some k_ ≠ (v1195 : Value).ownBlock) v1201 y1200) := ⟨h1_⟩
 have n2_ : Aside0 (w17.heap[gb1189]? = some (.cells #[.slice A0_0 l0_0.length c0_0, .slice A0_1 l0_1.length c0_1] 25 (0, 0))) := ⟨h2_⟩
 have n3_ : Aside0 (w17.heap[gb1190]? = some (.cells #[.slice none 0 0, .slice none 0 0] 25 (0, 0))) := ⟨h3_⟩
 have n4_ : Aside0 (w17.heap[gb1203]? = some (.cells #[.slice none 0 0, .slice none 0 0] 25 (0, 0))) := ⟨h4_⟩
 have n5_ : Aside0 (w.heap.size ≤ gb1203) := ⟨h5_⟩
 have n6_ : Aside0 (w.heap.size ≤ gb1203) := ⟨h6_⟩
 have n7_ : Aside0 (gb1189 ≠ gb1203) := ⟨h7_⟩
 have n8_ : Aside0 (gb1203 ≠ gb1189) := ⟨h8_⟩
 have n9_ : Aside0 (gb1190 ≠ gb1203) := ⟨h9_⟩
 have n10_ : Aside0 (gb1203 ≠ gb1190) := ⟨h10_⟩
 have n11_ : Aside0 (Below w.heap.size w w17) := ⟨h11_⟩
 clear BK1189
 clear BK1190
 clear HB
 clear h0_ h1_ h2_ h3_ h4_ h5_ h6_ h7_ h8_ h9_ h10_ h11_
 have HO1196 := n0_
 have HO1202 := n1_
 have BK1189 := n2_
 have BK1190 := n3_
 have BK1203 := n4_
 have GW1203 := n5_
 have GE1203 := n6_
 have NB1189_1203 := n7_
 have NB1203_1189 := n8_
 have NB1190_1203 := n9_
 have NB1203_1190 := n10_
 have HB := n11_
 clear n0_ n1_ n2_ n3_ n4_ n5_ n6_ n7_ n8_ n9_ n10_ n11_
 have hHeld : w17.cell? ⟨gb1189, 0, none⟩ = some (.slice A0_0 l0_0.length c0_0) ∧ w17.cell? ⟨gb1189, 1, none⟩ = some (.slice A0_1 l0_1.length c0_1) := hS_
 obtain ⟨Ao18, co18, eo18⟩ := Kd.R_slice HO1202.out
 (first | subst eo18 | (injection eo18 with f1_ f2_ f3_; have f4_ := f1_.symm; have f5_ := f3_.symm; clear f1_ f2_ f3_; subst f4_; subst f5_))
 obtain ⟨Ao19, co19, eo19⟩ := Kd.R_slice HO1196.out
 (first | subst eo19 | (injection eo19 with f1_ f2_ f3_; have f4_ := f1_.symm; have f5_ := f3_.symm; clear f1_ f2_ f3_; subst f4_; subst f5_))
 refine norm_ (a' := ?_) ?_ ?_
 rotate_left
 ·simp only [putAll, Act.put, sA_, sB_, sC_]
  rfl
 refine on_ 10 (none) (bl_ 11 2047) HT_ (fun K hK => ?_)
 have hs20 : w17.cell? ⟨gb1203, 0, none⟩ = some (.slice none 0 0) := cz0_ BK1203
 have hfs20 := kD_ BK1203.out 0
 have hns20_0 := NB1189_1203.out
 have hns20_1 := NB1190_1203.out
 have hms20_0 := NB1203_1189.out
 have hms20_1 := NB1203_1190.out
 have hs21 : w17.cell? ⟨gb1203, 1, none⟩ = some (.slice none 0 0) := cz1_ BK1203
 have hfs21 := kD_ BK1203.out 1
 have hns21_0 := NB1189_1203.out
 have hns21_1 := NB1190_1203.out
 have hms21_0 := NB1203_1189.out
 have hms21_1 := NB1203_1190.out
 refine skip_ (w1 := ?_) (by rfl) rfl ?_ ?_
 rotate_left
 ·go_simp
  rfl
 refine hK.out _ _ ⟨((cell_far (p := ⟨gb1203, _, none⟩) NB1189_1203.out _).trans (((cell_far (p := ⟨gb1203, _, none⟩) NB1189_1203.out _).trans (hHeld.1)))), ((cell_far (p := ⟨gb1203, _, none⟩) NB1189_1203.out _).trans (((cell_far (p := ⟨gb1203, _, none⟩) NB1189_1203.out _).trans (hHeld.2))))⟩ (fun hHeld => ?_)
 clear hK K
 refine done_ (done_of HT_.out (by kernel_rfl)) ?_
 try go_wp2
 go_loopg [6] k (fun kq v6 w' => ∃ (x6_1 : Int) (x1204000_1 : List Int) (x1204001_1 : List Int) (u1204000 : Value) (u1204001 : Value), v6 = .int .i64 x6_1 ∧ Aside0 (Z70.l0 kq a1 x6_1 x1204000_1 x1204001_1 = some (r1, r2)) ∧ Aside0 (kq ≤ k) ∧ Aside0 (Kd.R (Kd.int .i64) 3 w' w.heap.size (fun k_ => some k_ ≠ (u1204001 : Value).ownBlock) u1204000 x1204000_1) ∧ Aside0 (Kd.R (Kd.int .i64) 3 w' w.heap.size (fun k_ => some k_ ≠ (u1204000 : Value).ownBlock) u1204001 x1204001_1) ∧ Aside0 (w'.heap[gb1189]? = some (.cells #[(.slice A0_0 l0_0.length c0_0), (.slice A0_1 l0_1.length c0_1)] 25 (0, 0))) ∧ Aside0 (w'.heap[gb1190]? = some (.cells #[(.slice none 0 0), (.slice none 0 0)] 25 (0, 0))) ∧ Aside0 (w'.heap[gb1203]? = some (.cells #[u1204000, u1204001] 25 (0, 0))) ∧ Aside0 (Below w.heap.size w w'))
 case atStart => exact ⟨(0), (y1194), (y1200), (.slice Ao19 y1194.length co19), (.slice Ao18 y1200.length co18), qc_, H', ⟨nA_ _⟩, ⟨(rw_ (fa_ HO1196 BK1203))⟩, ⟨(rw_ (fa_ HO1202 BK1203))⟩, ⟨by (with_reducible repeat (first | refine kA_ ?_ _ | refine kB_ ?_ | refine kC_ ?_ _)); refine blk_far ?_ NB1189_1203.out _; (with_reducible repeat (first | refine kA_ ?_ _ | refine kB_ ?_ | refine kC_ ?_ _)); refine blk_far ?_ NB1189_1203.out _; (with_reducible repeat (first | refine kA_ ?_ _ | refine kB_ ?_ | refine kC_ ?_ _)); exact BK1189.out⟩, ⟨by (with_reducible repeat (first | refine kA_ ?_ _ | refine kB_ ?_ | refine kC_ ?_ _)); refine blk_far ?_ NB1190_1203.out _; (with_reducible repeat (first | refine kA_ ?_ _ | refine kB_ ?_ | refine kC_ ?_ _)); refine blk_far ?_ NB1190_1203.out _; (with_reducible repeat (first | refine kA_ ?_ _ | refine kB_ ?_ | refine kC_ ?_ _)); exact BK1190.out⟩, ⟨qp_⟩, ⟨hB_⟩⟩
 case round =>
  clear H'
  obtain ⟨x6_1, x1204000_1, x1204001_1, u1204000, u1204001, rfl, HA, HK1, HO_1204000, HO_1204001, BK1189, BK1190, BK1203, HB⟩ := hrel
  cases gk with
  | zero => exact absurd HA.out (by simp [Z70.l0])
  | succ k1 =>
   have H := HA.out
   clear HA
   simp only [Z70.l0] at H
   by_cases c22 : x6_1 < (a1.size : Int)
   ·rw [if_pos c22] at H
    have c22b0 := oC_ c22
    clear c22
    have c23 := cp_ H
    replace H := ca_ H
    have c23b0 := oC_ c23
    clear c23
    obtain ⟨⟨t1204, t1207⟩, A25, H⟩ := bi_ H
    try dsimp only at H
    have H' := A_ H
    clear H
    try go_wp2
    replace HO_1204000 := A_ (rC_ HO_1204000.out)
    replace HO_1204001 := A_ (rC_ HO_1204001.out)
    replace BK1189 := A_ (kB_ BK1189.out)
    replace BK1190 := A_ (kB_ BK1190.out)
    replace BK1203 := A_ (kB_ BK1203.out)
    replace HB := A_ (bC_ HB.out)
    have p24 : 0 ≤ (x6_1 : Int) := oB_ qe_
    have q24 : x6_1 < (a1.size : Int) := oB_ qe_
    have hx24 := bt_at a1 x6_1
    replace p24 := eq_true p24
    replace q24 := eq_true q24
    obtain ⟨Ao27, co27, eo27⟩ := Kd.R_slice HO_1204000.out
    (first | subst eo27 | (injection eo27 with f1_ f2_ f3_; have f4_ := f1_.symm; have f5_ := f3_.symm; clear f1_ f2_ f3_; subst f4_; subst f5_))
    obtain ⟨Ao28, co28, eo28⟩ := Kd.R_slice HO_1204001.out
    (first | subst eo28 | (injection eo28 with f1_ f2_ f3_; have f4_ := f1_.symm; have f5_ := f3_.symm; clear f1_ f2_ f3_; subst f4_; subst f5_))
    refine start_ (n := 6) (S := fun w' => w'.cell? ⟨gb1203, 0, none⟩ = some (.slice Ao27 x1204000_1.length co27) ∧ w'.cell? ⟨gb1203, 1, none⟩ = some (.slice Ao28 x1204001_1.length co28)) (ds := [5]) (bl_ 6 0) (by kernel_rfl) rfl (by kernel_rfl) ⟨cz0_ BK1203, cz1_ BK1203⟩ (fun hHeld => ?_)
    generalize wr.drew = w26 at HO_1204000 HO_1204001 BK1189 BK1190 BK1203 HB hHeld ⊢
    refine pure_ (i := 1) (N := some 23) (v := ?_) (a' := ?_) (bl_ 6 2) rfl rfl (by kernel_rfl) (fun _ _ _ h => h) (Or.inl ⟨by rfl, ?_⟩) ?_ ?_
    rotate_left
    ·intro w'
     go_simp
     with_reducible rfl
    rotate_left
    ·simp only [Act.put, sA_, sB_, sC_, i64_w, i32_w]
     rfl
    refine pure_ (i := 2) (N := some 24) (v := ?_) (a' := ?_) (bl_ 6 6) rfl rfl (by kernel_rfl) (fun _ _ _ h => h) (Or.inl ⟨by rfl, ?_⟩) ?_ ?_
    rotate_left
    ·intro w'
     go_simp
     with_reducible rfl
    rotate_left
    ·simp only [Act.put, sA_, sB_, sC_, i64_w, i32_w]
     rfl
    refine take_ (i := 0) (N := some 22) (v := ?_) (a' := ?_) (bl_ 6 7) rfl rfl (by kernel_rfl) (fun _ _ _ h => h) (Or.inl ⟨by rfl, ?_⟩) hHeld ?_ ?_
    rotate_left
    ·rintro w' ⟨s0, s1⟩
     go_simp
     with_reducible rfl
    rotate_left
    ·simp only [Act.put, sA_, sB_, sC_, i64_w, i32_w]
     rfl
    refine take_ (i := 3) (N := some 25) (v := ?_) (a' := ?_) (bl_ 6 15) rfl rfl (by kernel_rfl) (fun _ _ _ h => h) (Or.inl ⟨by rfl, ?_⟩) hHeld ?_ ?_
    rotate_left
    ·rintro w' ⟨s0, s1⟩
     go_simp
     with_reducible rfl
    rotate_left
    ·simp only [Act.put, sA_, sB_, sC_, i64_w, i32_w]
     rfl
    refine one_ (i := 4) (N := some 26) (bl_ 6 31) rfl rfl (by kernel_rfl) (by decide) (fun K hK => ?_)
    refine gO_ Try.func87 #[.agg #[.slice Ao27 x1204000_1.length co27, .slice Ao28 x1204001_1.length co28], .int .u8 (bt a1 x6_1)] (by rfl) rfl rfl qa_ ?_
    with_reducible refine (Z41.calls k1 _ _ x1204000_1 _ _ x1204001_1 (bt a1 x6_1) t1204 t1207 _ (cr_ HO_1204000) ((Kd.R_reads' HO_1204000.out).2.1) (cr_ HO_1204001) ((Kd.R_reads' HO_1204001.out).2.1) A25.out).mono ?_
    rintro e w29 ⟨v1205, v1208, rfl, ho0, ho1, hb⟩
    refine ⟨_, rfl, ?_⟩
    have HO1206 := A_ (rE_ (Kd.R_new' (Kd.R_new' ho0 (Kd.R_lt (rr_ HO_1204000))) (Kd.R_lt (rr_ HO_1204001))) (bF_ hB_))
    have HO1209 := A_ (rE_ (Kd.R_new' (Kd.R_new' ho1 (Kd.R_lt (rr_ HO_1204000))) (Kd.R_lt (rr_ HO_1204001))) (bF_ hB_))
    replace HO_1204000 := A_ (Kd.R_mono (Kd.R_told (Kd.R_told (Kd.R_old (rr_ HO_1204000) hb) (Kd.R_base ho0)) (Kd.R_base ho1)) (fun _ h_ => h_.1))
    replace HO_1204001 := A_ (Kd.R_mono (Kd.R_told (Kd.R_told (Kd.R_old (rr_ HO_1204001) hb) (Kd.R_base ho0)) (Kd.R_base ho1)) (fun _ h_ => h_.1))
    replace BK1189 := bb_ BK1189 hb
    replace BK1190 := bb_ BK1190 hb
    replace BK1203 := bb_ BK1203 hb
    replace HB := b1_ hb
    clear hb ho0 ho1
    obtain ⟨Ao30, co30, eo30⟩ := Kd.R_slice HO1206.out
    (first | subst eo30 | (injection eo30 with f1_ f2_ f3_; have f4_ := f1_.symm; have f5_ := f3_.symm; clear f1_ f2_ f3_; subst f4_; subst f5_))
    obtain ⟨Ao32, co32, eo32⟩ := Kd.R_slice HO1209.out
    (first | subst eo32 | (injection eo32 with f1_ f2_ f3_; have f4_ := f1_.symm; have f5_ := f3_.symm; clear f1_ f2_ f3_; subst f4_; subst f5_))
    refine hK.out _ _ ⟨cz0_ BK1203, cz1_ BK1203⟩ (fun hHeld => ?_)
    clear hK K
    refine no_ (some 26) ?_
    refine last_ (i := 5) (N := none) (bl_ 6 63) rfl rfl (by kernel_rfl) (by decide) (fun K hK => ?_)
    have hs31 : w29.cell? ⟨gb1203, 0, none⟩ = some (.slice Ao27 x1204000_1.length co27) := cz0_ BK1203
    have hfs31 := kD_ BK1203.out 0
    have hns31_0 := NB1189_1203.out
    have hns31_1 := NB1190_1203.out
    have hms31_0 := NB1203_1189.out
    have hms31_1 := NB1203_1190.out
    have hs33 : w29.cell? ⟨gb1203, 1, none⟩ = some (.slice Ao28 x1204001_1.length co28) := cz1_ BK1203
    have hfs33 := kD_ BK1203.out 1
    have hns33_0 := NB1189_1203.out
    have hns33_1 := NB1190_1203.out
    have hms33_0 := NB1203_1189.out
    have hms33_1 := NB1203_1190.out
    refine skip_ (w1 := ?_) (by rfl) rfl ?_ ?_
    rotate_left
    ·go_simp
     rfl
    refine hK.out _ _ ?_
    clear hK K
    refine done_ (by kernel_rfl) ?_
    try go_wp2
    go_roundg k1
    case measure => have := HK1.out; omega
    case rel => exact ⟨(wrap64 (x6_1 + 1)), (t1204), (t1207), (.slice Ao30 t1204.length co30), (.slice Ao32 t1207.length co32), qc_, H', ⟨by have := HK1.out; omega⟩, ⟨(rw_ (Kd.R_mono (fa_ HO1206 BK1203) (fun _ hk => hk.1.1)))⟩, ⟨(rw_ (Kd.R_mono (fa_ HO1209 BK1203) (fun _ hk => hk.1.1)))⟩, ⟨by (with_reducible repeat (first | refine kA_ ?_ _ | refine kB_ ?_ | refine kC_ ?_ _)); refine blk_far ?_ NB1189_1203.out _; (with_reducible repeat (first | refine kA_ ?_ _ | refine kB_ ?_ | refine kC_ ?_ _)); refine blk_far ?_ NB1189_1203.out _; (with_reducible repeat (first | refine kA_ ?_ _ | refine kB_ ?_ | refine kC_ ?_ _)); exact BK1189.out⟩, ⟨by (with_reducible repeat (first | refine kA_ ?_ _ | refine kB_ ?_ | refine kC_ ?_ _)); refine blk_far ?_ NB1190_1203.out _; (with_reducible repeat (first | refine kA_ ?_ _ | refine kB_ ?_ | refine kC_ ?_ _)); refine blk_far ?_ NB1190_1203.out _; (with_reducible repeat (first | refine kA_ ?_ _ | refine kB_ ?_ | refine kC_ ?_ _)); exact BK1190.out⟩, ⟨qp_⟩, ⟨hB_⟩⟩
   ·rw [if_neg c22] at H
    have c22b0 := oD_ c22
    clear c22
    simp only [Option.some.injEq, Prod.mk.injEq] at H
    obtain ⟨rfl, rfl⟩ := H
    have hnb34 := NB1203_1189.out
    have hnc34 := NB1189_1203.out
    have hnb35 := NB1203_1190.out
    have hnc35 := NB1190_1203.out
    obtain ⟨hcz36_0, hcz36_1, hfz36_0, hfz36_1⟩ := c2_ BK1203
    obtain ⟨Ao37, co37, eo37⟩ := Kd.R_slice HO_1204000.out
    subst eo37
    have hnb38 := NB1190_1189.out
    have hnc38 := NB1189_1190.out
    obtain ⟨hcz39_0, hcz39_1, hfz39_0, hfz39_1⟩ := c2_ BK1190
    obtain ⟨Ao40, co40, eo40⟩ := Kd.R_slice HO_1204001.out
    subst eo40
    go_wp2
    refine bodyPost_ret (results_cell_row rfl _ _ gb1190 25 #[.slice Ao37 x1204000_1.length co37, .slice Ao40 x1204001_1.length co40] (0, 0) _ rfl qp_ Try.underlying25 rfl (by kernel_rfl)) rfl ?_
    exact ⟨_, _, qb_, (rw_ (fa_ HO_1204000 BK1190)), (rw_ (fa_ HO_1204001 BK1190)), hB_⟩
def Z57.f (k : Nat) (l0_0 : List Int) (l0_1 : List Int) (a1 : ByteArray) : Option (List Int × List Int × Bool) := (Z37.f k l0_0 l0_1).bind fun t1212 => (if t1212 = true then ((Z68.f k a1).bind fun t1213 => (if t1213 = true then ((Z70.f k l0_0 l0_1 a1).bind fun bt1214 => (some (bt1214.1, bt1214.2, true))) else (some (([] : List Int), ([] : List Int), false)))) else (some (([] : List Int), ([] : List Int), false)))
theorem Z57.mono : ∀ a0 a1 a2 k, LeO (Z57.f k a0 a1 a2) (Z57.f (k + 1) a0 a1 a2) := by
 intro a0 a1 a2 k
 unfold Z57.f
 repeat' first|exact Z37.mono _ _ _|exact Z68.mono _ _|exact Z70.mono _ _ _ _|exact lo_|refine LeO.ite ?_ ?_|refine LeO.bind ?_ (fun _ => ?_)
set_option maxHeartbeats 8000000 in
set_option maxRecDepth 100000 in
theorem Z57.calls (k : Nat) (A0_0 : Option Addr) (c0_0 : Nat) (l0_0 : List Int) (A0_1 : Option Addr) (c0_1 : Nat) (l0_1 : List Int) (a1 : ByteArray) (r1 : List Int) (r2 : List Int) (r3 : Bool) (w : World) (hr0_0 : Kd.C (Kd.int .i64) w A0_0 l0_0.length l0_0) (hc0_0 : l0_0.length ≤ c0_0) (hr0_1 : Kd.C (Kd.int .i64) w A0_1 l0_1.length l0_1) (hc0_1 : l0_1.length ≤ c0_1) (h : Z57.f k l0_0 l0_1 a1 = some (r1, r2, r3)) :
  Calls Try.prog 152 #[.agg #[.slice A0_0 l0_0.length c0_0, .slice A0_1 l0_1.length c0_1], .string a1] w fun e w' => ∃ v0_ v1_ : Value, e = .returned (.tuple #[.agg #[v0_, v1_], .bool r3]) ∧ Kd.R (Kd.int .i64) 3 w' w.heap.size (fun k_ => some k_ ≠ (v1_ : Value).ownBlock) v0_ r1 ∧ Kd.R (Kd.int .i64) 3 w' w.heap.size (fun k_ => some k_ ≠ (v0_ : Value).ownBlock) v1_ r2 ∧ Below w.heap.size w w' := by
 have hu25 := Try.underlying25
 have HR0_0 := A_ hr0_0
 have HC0_0 := A_ hc0_0
 clear hr0_0 hc0_0
 have HR0_1 := A_ hr0_1
 have HC0_1 := A_ hc0_1
 clear hr0_1 hc0_1
 have HB := A_ (Below.refl w.heap.size w)
 have H := h
 unfold Z57.f at H
 clear h
 obtain ⟨t1212, A3, H⟩ := bi_ H
 by_cases c4 : t1212 = true
 ·subst c4
  rw [if_pos rfl] at H
  obtain ⟨t1213, A5, H⟩ := bi_ H
  by_cases c6 : t1213 = true
  ·subst c6
   rw [if_pos rfl] at H
   obtain ⟨⟨t1214, t1217⟩, A7, H⟩ := bi_ H
   try dsimp only at H
   simp only [Option.some.injEq, Prod.mk.injEq] at H
   obtain ⟨rfl, rfl, rfl⟩ := H
   go_enter Try.func152, Try.ntmps152
   go_wp2_with (first | ((with_reducible refine gB_ (N := 2) rfl ?_); refine bx_ 2 #[.slice A0_0 l0_0.length c0_0, .slice A0_1 l0_1.length c0_1] 25 ?_; intro gb1210 hg w8 hbox hb; have BK1210 := A_ hbox; have GW1210 := gw_ w hg; have GE1210 := GW1210; replace HB := b1_ hb; clear hb hbox hg) | ((with_reducible refine gB_ (N := 4) rfl ?_); refine bx_ 4 #[.slice none 0 0, .slice none 0 0] 25 ?_; intro gb1211 hg w9 hbox hb; have BK1211 := A_ hbox; have GW1211 := gw_ w hg; have GE1211 := GW1211; replace HB := b1_ hb; have NB1210_1211 := gN_ BK1210 hg; have NB1211_1210 := gP_ BK1210 hg; replace BK1210 := bb_ BK1210 hb; clear hb hbox hg; have hnb10 := NB1210_1211.out; have hnc10 := NB1211_1210.out; obtain ⟨hcz11_0, hcz11_1, hfz11_0, hfz11_1⟩ := c2_ BK1210) | ((with_reducible refine gA_ (f := 80) rfl ?_); refine gL_ (some 7) Try.func80 #[.agg #[.slice A0_0 l0_0.length c0_0, .slice A0_1 l0_1.length c0_1]] rfl qa_ ?_; (with_reducible refine (Z37.calls k _ _ l0_0 _ _ l0_1 true _ (cb_ HR0_0) HC0_0.out (cb_ HR0_1) HC0_1.out A3.out).mono ?_); rintro e w12 ⟨rfl, hb⟩; refine ⟨_, rfl, ?_⟩; replace BK1210 := bb_ BK1210 hb; replace BK1211 := bb_ BK1211 hb; replace HB := b1_ hb; clear hb) | (go_at_call 89; (with_reducible refine (Z68.calls k a1 true _ A5.out).mono ?_); rintro e w' ⟨rfl, ⟨nd, rfl⟩⟩; (try (rw [drewN_self w12]; generalize hq_ : World.drewN w12 _ = w12; have n0_ : Aside0 (w12.heap[gb1210]? = some (.cells #[.slice A0_0 l0_0.length c0_0, .slice A0_1 l0_1.length c0_1] 25 (0, 0))) := ⟨by rw [← hq_]; exact (kk_ BK1210)⟩; have n1_ : Aside0 (w12.heap[gb1211]? = some (.cells #[.slice none 0 0, .slice none 0 0] 25 (0, 0))) := ⟨by rw [← hq_]; exact (kk_ BK1211)⟩; have n2_ : Aside0 (Below w.heap.size w w12) := ⟨by rw [← hq_]; exact hB_⟩; clear BK1210 BK1211 HB hq_; have BK1210 := n0_; have BK1211 := n1_; have HB := n2_; clear n0_ n1_ n2_)); obtain ⟨hcz13_0, hcz13_1, hfz13_0, hfz13_1⟩ := c2_ BK1210) | ((with_reducible refine gA_ (f := 164) rfl ?_); refine gL_ (some 17) Try.func164 #[.agg #[.slice A0_0 l0_0.length c0_0, .slice A0_1 l0_1.length c0_1], .string a1] rfl qa_ ?_; (with_reducible refine (Z70.calls k _ _ l0_0 _ _ l0_1 a1 t1214 t1217 _ (cb_ HR0_0) HC0_0.out (cb_ HR0_1) HC0_1.out A7.out).mono ?_); rintro e w14 ⟨v1215, v1218, rfl, ho0, ho1, hb⟩; refine ⟨_, rfl, ?_⟩; have HO1216 := rl_ w ho0; have HO1219 := rl_ w ho1; replace BK1210 := bb_ BK1210 hb; replace BK1211 := bb_ BK1211 hb; replace HB := b1_ hb; clear hb ho0 ho1; obtain ⟨Ao15, co15, eo15⟩ := Kd.R_slice HO1216.out; subst eo15; obtain ⟨hcz16_0, hcz16_1, hfz16_0, hfz16_1⟩ := c2_ BK1211; obtain ⟨Ao17, co17, eo17⟩ := Kd.R_slice HO1219.out; subst eo17))
   refine bodyPost_ret (results_ct rfl _ _ gb1211 25 #[.slice Ao15 t1214.length co15, .slice Ao17 t1217.length co17] (0, 0) _ rfl qp_ Try.underlying25 rfl (by kernel_rfl)) rfl ?_
   exact ⟨_, _, qb_, (rw_ (fa_ HO1216 BK1211)), (rw_ (fa_ HO1219 BK1211)), hB_⟩
  ·replace c6 := Bool.eq_false_iff.mpr c6
   subst c6
   have H1 : (some (([] : List Int), ([] : List Int), false)) = some (r1, r2, r3) := by rw [if_neg (show ¬ (false = true) by decide)] at H; exact H
   clear H
   have H := H1
   clear H1
   simp only [Option.some.injEq, Prod.mk.injEq] at H
   obtain ⟨rfl, rfl, rfl⟩ := H
   go_enter Try.func152, Try.ntmps152
   go_wp2_with (first | ((with_reducible refine gB_ (N := 2) rfl ?_); refine bx_ 2 #[.slice A0_0 l0_0.length c0_0, .slice A0_1 l0_1.length c0_1] 25 ?_; intro gb1210 hg w18 hbox hb; have BK1210 := A_ hbox; have GW1210 := gw_ w hg; have GE1210 := GW1210; replace HB := b1_ hb; clear hb hbox hg) | ((with_reducible refine gB_ (N := 4) rfl ?_); refine bx_ 4 #[.slice none 0 0, .slice none 0 0] 25 ?_; intro gb1211 hg w19 hbox hb; have BK1211 := A_ hbox; have GW1211 := gw_ w hg; have GE1211 := GW1211; replace HB := b1_ hb; have NB1210_1211 := gN_ BK1210 hg; have NB1211_1210 := gP_ BK1210 hg; replace BK1210 := bb_ BK1210 hb; clear hb hbox hg; have hnb20 := NB1210_1211.out; have hnc20 := NB1211_1210.out; obtain ⟨hcz21_0, hcz21_1, hfz21_0, hfz21_1⟩ := c2_ BK1210) | ((with_reducible refine gA_ (f := 80) rfl ?_); refine gL_ (some 7) Try.func80 #[.agg #[.slice A0_0 l0_0.length c0_0, .slice A0_1 l0_1.length c0_1]] rfl qa_ ?_; (with_reducible refine (Z37.calls k _ _ l0_0 _ _ l0_1 true _ (cb_ HR0_0) HC0_0.out (cb_ HR0_1) HC0_1.out A3.out).mono ?_); rintro e w22 ⟨rfl, hb⟩; refine ⟨_, rfl, ?_⟩; replace BK1210 := bb_ BK1210 hb; replace BK1211 := bb_ BK1211 hb; replace HB := b1_ hb; clear hb) | (go_at_call 89; (with_reducible refine (Z68.calls k a1 false _ A5.out).mono ?_); rintro e w' ⟨rfl, ⟨nd, rfl⟩⟩; (try (rw [drewN_self w22]; generalize hq_ : World.drewN w22 _ = w22; have n0_ : Aside0 (w22.heap[gb1210]? = some (.cells #[.slice A0_0 l0_0.length c0_0, .slice A0_1 l0_1.length c0_1] 25 (0, 0))) := ⟨by rw [← hq_]; exact (kk_ BK1210)⟩; have n1_ : Aside0 (w22.heap[gb1211]? = some (.cells #[.slice none 0 0, .slice none 0 0] 25 (0, 0))) := ⟨by rw [← hq_]; exact (kk_ BK1211)⟩; have n2_ : Aside0 (Below w.heap.size w w22) := ⟨by rw [← hq_]; exact hB_⟩; clear BK1210 BK1211 HB hq_; have BK1210 := n0_; have BK1211 := n1_; have HB := n2_; clear n0_ n1_ n2_)); obtain ⟨hcz23_0, hcz23_1, hfz23_0, hfz23_1⟩ := c2_ BK1211))
   refine bodyPost_ret (results_ct rfl _ _ gb1211 25 #[.slice none 0 0, .slice none 0 0] (0, 0) _ rfl qp_ Try.underlying25 rfl (by kernel_rfl)) rfl ?_
   exact ⟨_, _, qb_, by first | exact Kd.R_nil _ _ _ _ _ | exact Kd.N_nil _ _ _ _ _ | exact Kd.V_nil _ _ _ _ _ | exact Kd.Q_nil _ _ _ _ _ | exact Kd.S_nil _ _ _ _ _, by first | exact Kd.R_nil _ _ _ _ _ | exact Kd.N_nil _ _ _ _ _ | exact Kd.V_nil _ _ _ _ _ | exact Kd.Q_nil _ _ _ _ _ | exact Kd.S_nil _ _ _ _ _, hB_⟩
 ·replace c4 := Bool.eq_false_iff.mpr c4
  subst c4
  have H1 : (some (([] : List Int), ([] : List Int), false)) = some (r1, r2, r3) := by rw [if_neg (show ¬ (false = true) by decide)] at H; exact H
  clear H
  have H := H1
  clear H1
  simp only [Option.some.injEq, Prod.mk.injEq] at H
  obtain ⟨rfl, rfl, rfl⟩ := H
  go_enter Try.func152, Try.ntmps152
  go_wp2_with (first | ((with_reducible refine gB_ (N := 2) rfl ?_); refine bx_ 2 #[.slice A0_0 l0_0.length c0_0, .slice A0_1 l0_1.length c0_1] 25 ?_; intro gb1210 hg w24 hbox hb; have BK1210 := A_ hbox; have GW1210 := gw_ w hg; have GE1210 := GW1210; replace HB := b1_ hb; clear hb hbox hg) | ((with_reducible refine gB_ (N := 4) rfl ?_); refine bx_ 4 #[.slice none 0 0, .slice none 0 0] 25 ?_; intro gb1211 hg w25 hbox hb; have BK1211 := A_ hbox; have GW1211 := gw_ w hg; have GE1211 := GW1211; replace HB := b1_ hb; have NB1210_1211 := gN_ BK1210 hg; have NB1211_1210 := gP_ BK1210 hg; replace BK1210 := bb_ BK1210 hb; clear hb hbox hg; have hnb26 := NB1210_1211.out; have hnc26 := NB1211_1210.out; obtain ⟨hcz27_0, hcz27_1, hfz27_0, hfz27_1⟩ := c2_ BK1210) | ((with_reducible refine gA_ (f := 80) rfl ?_); refine gL_ (some 7) Try.func80 #[.agg #[.slice A0_0 l0_0.length c0_0, .slice A0_1 l0_1.length c0_1]] rfl qa_ ?_; (with_reducible refine (Z37.calls k _ _ l0_0 _ _ l0_1 false _ (cb_ HR0_0) HC0_0.out (cb_ HR0_1) HC0_1.out A3.out).mono ?_); rintro e w28 ⟨rfl, hb⟩; refine ⟨_, rfl, ?_⟩; replace BK1210 := bb_ BK1210 hb; replace BK1211 := bb_ BK1211 hb; replace HB := b1_ hb; clear hb; obtain ⟨hcz29_0, hcz29_1, hfz29_0, hfz29_1⟩ := c2_ BK1211))
  refine bodyPost_ret (results_ct rfl _ _ gb1211 25 #[.slice none 0 0, .slice none 0 0] (0, 0) _ rfl qp_ Try.underlying25 rfl (by kernel_rfl)) rfl ?_
  exact ⟨_, _, qb_, by first | exact Kd.R_nil _ _ _ _ _ | exact Kd.N_nil _ _ _ _ _ | exact Kd.V_nil _ _ _ _ _ | exact Kd.Q_nil _ _ _ _ _ | exact Kd.S_nil _ _ _ _ _, by first | exact Kd.R_nil _ _ _ _ _ | exact Kd.N_nil _ _ _ _ _ | exact Kd.V_nil _ _ _ _ _ | exact Kd.Q_nil _ _ _ _ _ | exact Kd.S_nil _ _ _ _ _, hB_⟩
def Z11.f (k : Nat) (l0_0 : List Int) (l0_1 : List Int) (l1_0 : List Int) (l1_1 : List Int) : Option (Bool) := (Z37.f k l0_0 l0_1).bind fun t1222 => (if t1222 = true then ((Z37.f k l1_0 l1_1).bind fun t1223 => (if t1223 = true then ((Z49.f k l0_0 l0_1).bind fun bt1224 => ((Z49.f k l1_0 l1_1).bind fun bt1230 => ((Z23.f k bt1224.1 bt1224.2 bt1230.1 bt1230.2).bind fun t1236 => (some t1236)))) else (some false))) else (some false))
theorem Z11.mono : ∀ a0 a1 a2 a3 k, LeO (Z11.f k a0 a1 a2 a3) (Z11.f (k + 1) a0 a1 a2 a3) := by
 intro a0 a1 a2 a3 k
 unfold Z11.f
 repeat' first|exact Z23.mono _ _ _ _ _|exact Z37.mono _ _ _|exact Z49.mono _ _ _|exact lo_|refine LeO.ite ?_ ?_|refine LeO.bind ?_ (fun _ => ?_)
def Z11.T1 : Bool × List (List Nat × List Nat) := (true, [([], []), ([0], [0]), ([1, 1], [1]), ([2], [2]), ([3, 2, 2], [2, 3]), ([2, 4], [2, 4]), ([5, 4], [5]), ([6], [6]), ([7, 6, 6], [6, 7]), ([6], [6]), ([9, 8, 6], [6, 9]), ([8, 10, 10, 6], [6, 8, 10]), ([6, 11], [6, 11]), ([12, 11, 0, 1, 2, 3, 4, 5, 6, 7, 8, 9, 10, 11, 12], [12])])
def Z11.B1 : List Nat := [0, 1, 3, 7, 15, 31, 63, 127, 255, 127, 1023, 2047, 4095, 8191]
theorem Z11.tab1 : rtab .any (opsOf Try.f153 1) = Z11.T1 := by kernel_rfl
theorem Z11.bits1 : waitsOk Z11.T1.2 Z11.B1 = true := by kernel_rfl
set_option maxHeartbeats 8000000 in
set_option maxRecDepth 100000 in
theorem Z11.calls (k : Nat) (A0_0 : Option Addr) (c0_0 : Nat) (l0_0 : List Int) (A0_1 : Option Addr) (c0_1 : Nat) (l0_1 : List Int) (A1_0 : Option Addr) (c1_0 : Nat) (l1_0 : List Int) (A1_1 : Option Addr) (c1_1 : Nat) (l1_1 : List Int) (r : Bool) (w : World) (hr0_0 : Kd.C (Kd.int .i64) w A0_0 l0_0.length l0_0) (hc0_0 : l0_0.length ≤ c0_0) (hr0_1 : Kd.C (Kd.int .i64) w A0_1 l0_1.length l0_1) (hc0_1 : l0_1.length ≤ c0_1) (hr1_0 : Kd.C (Kd.int .i64) w A1_0 l1_0.length l1_0) (hc1_0 : l1_0.length ≤ c1_0) (hr1_1 : Kd.C (Kd.int .i64) w A1_1 l1_1.length l1_1) (hc1_1 : l1_1.length ≤ c1_1) (h : Z11.f k l0_0 l0_1 l1_0 l1_1 = some r) :
  Calls Try.prog 153 #[.agg #[.slice A0_0 l0_0.length c0_0, .slice A0_1 l0_1.length c0_1], .agg #[.slice A1_0 l1_0.length c1_0, .slice A1_1 l1_1.length c1_1]] w fun e w' => e = .returned (.bool r) ∧ Below w.heap.size w w' := by
 have hu25 := Try.underlying25
 have HR0_0 := A_ hr0_0
 have HC0_0 := A_ hc0_0
 clear hr0_0 hc0_0
 have HR0_1 := A_ hr0_1
 have HC0_1 := A_ hc0_1
 clear hr0_1 hc0_1
 have HR1_0 := A_ hr1_0
 have HC1_0 := A_ hc1_0
 clear hr1_0 hc1_0
 have HR1_1 := A_ hr1_1
 have HC1_1 := A_ hc1_1
 clear hr1_1 hc1_1
 have HB := A_ (Below.refl w.heap.size w)
 have H := h
 unfold Z11.f at H
 clear h
 obtain ⟨t1222, A3, H⟩ := bi_ H
 by_cases c4 : t1222 = true
 ·subst c4
  rw [if_pos rfl] at H
  obtain ⟨t1223, A5, H⟩ := bi_ H
  by_cases c6 : t1223 = true
  ·subst c6
   rw [if_pos rfl] at H
   obtain ⟨⟨t1224, t1227⟩, A7, H⟩ := bi_ H
   try dsimp only at H
   obtain ⟨⟨t1230, t1233⟩, A8, H⟩ := bi_ H
   try dsimp only at H
   obtain ⟨t1236, A9, H⟩ := bi_ H
   obtain rfl := Option.some.inj H
   go_enter Try.func153, Try.ntmps153
   try go_wp2_with (first | ((with_reducible refine gB_ (N := 2) rfl ?_); refine bx_ 2 #[.slice A0_0 l0_0.length c0_0, .slice A0_1 l0_1.length c0_1] 25 ?_; intro gb1220 hg w10 hbox hb; have BK1220 := A_ hbox; have GW1220 := gw_ w hg; have GE1220 := GW1220; replace HB := b1_ hb; clear hb hbox hg) | ((with_reducible refine gB_ (N := 3) rfl ?_); refine bx_ 3 #[.slice A1_0 l1_0.length c1_0, .slice A1_1 l1_1.length c1_1] 25 ?_; intro gb1221 hg w11 hbox hb; have BK1221 := A_ hbox; have GW1221 := gw_ w hg; have GE1221 := GW1221; replace HB := b1_ hb; have NB1220_1221 := gN_ BK1220 hg; have NB1221_1220 := gP_ BK1220 hg; replace BK1220 := bb_ BK1220 hb; clear hb hbox hg))
   replace BK1220 := A_ (kB_ BK1220.out)
   replace BK1221 := A_ (kB_ BK1221.out)
   replace HB := A_ (bC_ HB.out)
   refine start_ (n := 14) (S := fun w' => w'.cell? ⟨gb1220, 0, none⟩ = some (.slice A0_0 l0_0.length c0_0) ∧ w'.cell? ⟨gb1220, 1, none⟩ = some (.slice A0_1 l0_1.length c0_1) ∧ w'.cell? ⟨gb1221, 0, none⟩ = some (.slice A1_0 l1_0.length c1_0) ∧ w'.cell? ⟨gb1221, 1, none⟩ = some (.slice A1_1 l1_1.length c1_1)) (ds := []) (bl_ 14 0) (by kernel_rfl) rfl (by kernel_rfl) ⟨cz0_ BK1220, cz1_ BK1220, cz0_ BK1221, cz1_ BK1221⟩ (fun hHeld => ?_); refine with_tabW Z11.tab1 Z11.bits1 (fun HT_ HW_ => ?_)
   generalize w11.drew = w12 at BK1220 BK1221 HB hHeld ⊢
   refine ta_ 0 (some 5) (bl_ 14 1) HT_ HW_ hHeld ?_
   refine on_ 1 (some 6) (bl_ 14 3) HT_ (fun K hK => ?_)
   refine gO_ Try.func80 #[.agg #[.slice A0_0 l0_0.length c0_0, .slice A0_1 l0_1.length c0_1]] (by rfl) rfl rfl qa_ ?_
   with_reducible refine (Z37.calls k _ _ l0_0 _ _ l0_1 true _ (cb_ HR0_0) HC0_0.out (cb_ HR0_1) HC0_1.out A3.out).mono ?_
   rintro e w13 ⟨rfl, hb⟩
   refine ⟨_, rfl, ?_⟩
   replace BK1220 := bb_ BK1220 hb
   replace BK1221 := bb_ BK1221 hb
   replace HB := b1_ hb
   clear hb
   refine hK.out _ _ ⟨cz0_ BK1220, cz1_ BK1220, cz0_ BK1221, cz1_ BK1221⟩ (fun hHeld => ?_)
   clear hK K
   refine no_ (some 6) ?_
   refine pu_ 2 (some 7) (bl_ 14 7) HT_ ?_
   refine ta_ 3 (some 8) (bl_ 14 15) HT_ HW_ hHeld ?_
   refine on_ 4 (some 9) (bl_ 14 31) HT_ (fun K hK => ?_)
   refine gO_ Try.func80 #[.agg #[.slice A1_0 l1_0.length c1_0, .slice A1_1 l1_1.length c1_1]] (by rfl) rfl rfl qa_ ?_
   with_reducible refine (Z37.calls k _ _ l1_0 _ _ l1_1 true _ (cb_ HR1_0) HC1_0.out (cb_ HR1_1) HC1_1.out A5.out).mono ?_
   rintro e w14 ⟨rfl, hb⟩
   refine ⟨_, rfl, ?_⟩
   replace BK1220 := bb_ BK1220 hb
   replace BK1221 := bb_ BK1221 hb
   replace HB := b1_ hb
   clear hb
   refine hK.out _ _ ⟨cz0_ BK1220, cz1_ BK1220, cz0_ BK1221, cz1_ BK1221⟩ (fun hHeld => ?_)
   clear hK K
   refine no_ (some 9) ?_
   refine pu_ 5 (some 10) (bl_ 14 63) HT_ ?_
   refine pu_ 6 (some 11) (bl_ 14 127) HT_ ?_
   refine ta_ 7 (some 12) (bl_ 14 255) HT_ HW_ hHeld ?_
   refine ta_ 9 (some 14) (bl_ 14 767) HT_ HW_ hHeld ?_
   refine on_ 8 (some 13) (bl_ 14 1023) HT_ (fun K hK => ?_)
   refine gO_ Try.func82 #[.agg #[.slice A0_0 l0_0.length c0_0, .slice A0_1 l0_1.length c0_1]] (by rfl) rfl rfl qa_ ?_
   with_reducible refine (Z49.calls k _ _ l0_0 _ _ l0_1 t1224 t1227 _ (cb_ HR0_0) HC0_0.out (cb_ HR0_1) HC0_1.out A7.out).mono ?_
   rintro e w15 ⟨v1225, v1228, rfl, ho0, ho1, hb⟩
   refine ⟨_, rfl, ?_⟩
   have HO1226 := rl_ w ho0
   have HO1229 := rl_ w ho1
   replace BK1220 := bb_ BK1220 hb
   replace BK1221 := bb_ BK1221 hb
   replace HB := b1_ hb
   clear hb ho0 ho1
   refine hK.out _ _ ⟨cz0_ BK1220, cz1_ BK1220, cz0_ BK1221, cz1_ BK1221⟩ (fun hHeld => ?_)
   clear hK K
   refine no_ (some 13) ?_
   refine on_ 10 (some 15) (bl_ 14 2047) HT_ (fun K hK => ?_)
   refine gO_ Try.func82 #[.agg #[.slice A1_0 l1_0.length c1_0, .slice A1_1 l1_1.length c1_1]] (by rfl) rfl rfl qa_ ?_
   with_reducible refine (Z49.calls k _ _ l1_0 _ _ l1_1 t1230 t1233 _ (cb_ HR1_0) HC1_0.out (cb_ HR1_1) HC1_1.out A8.out).mono ?_
   rintro e w16 ⟨v1231, v1234, rfl, ho0, ho1, hb⟩
   refine ⟨_, rfl, ?_⟩
   have HO1232 := A_ (rE_ (Kd.R_new' (Kd.R_new' ho0 (Kd.R_lt (rr_ HO1226))) (Kd.R_lt (rr_ HO1229))) (bF_ hB_))
   have HO1235 := A_ (rE_ (Kd.R_new' (Kd.R_new' ho1 (Kd.R_lt (rr_ HO1226))) (Kd.R_lt (rr_ HO1229))) (bF_ hB_))
   replace HO1226 := A_ (Kd.R_mono (Kd.R_told (Kd.R_told (Kd.R_old (rr_ HO1226) hb) (Kd.R_base ho0)) (Kd.R_base ho1)) (fun _ h_ => h_.1))
   replace HO1229 := A_ (Kd.R_mono (Kd.R_told (Kd.R_told (Kd.R_old (rr_ HO1229) hb) (Kd.R_base ho0)) (Kd.R_base ho1)) (fun _ h_ => h_.1))
   replace BK1220 := bb_ BK1220 hb
   replace BK1221 := bb_ BK1221 hb
   replace HB := b1_ hb
   clear hb ho0 ho1
   obtain ⟨Ao17, co17, eo17⟩ := Kd.R_slice HO1226.out
   (first | subst eo17 | (injection eo17 with f1_ f2_ f3_; have f4_ := f1_.symm; have f5_ := f3_.symm; clear f1_ f2_ f3_; subst f4_; subst f5_))
   obtain ⟨Ao18, co18, eo18⟩ := Kd.R_slice HO1229.out
   (first | subst eo18 | (injection eo18 with f1_ f2_ f3_; have f4_ := f1_.symm; have f5_ := f3_.symm; clear f1_ f2_ f3_; subst f4_; subst f5_))
   obtain ⟨Ao19, co19, eo19⟩ := Kd.R_slice HO1232.out
   (first | subst eo19 | (injection eo19 with f1_ f2_ f3_; have f4_ := f1_.symm; have f5_ := f3_.symm; clear f1_ f2_ f3_; subst f4_; subst f5_))
   obtain ⟨Ao20, co20, eo20⟩ := Kd.R_slice HO1235.out
   (first | subst eo20 | (injection eo20 with f1_ f2_ f3_; have f4_ := f1_.symm; have f5_ := f3_.symm; clear f1_ f2_ f3_; subst f4_; subst f5_))
   refine hK.out _ _ ⟨cz0_ BK1220, cz1_ BK1220, cz0_ BK1221, cz1_ BK1221⟩ (fun hHeld => ?_)
   clear hK K
   refine no_ (some 15) ?_
   refine on_ 11 (some 16) (bl_ 14 4095) HT_ (fun K hK => ?_)
   refine gO_ Try.func118 #[.agg #[.slice Ao17 t1224.length co17, .slice Ao18 t1227.length co18], .agg #[.slice Ao19 t1230.length co19, .slice Ao20 t1233.length co20]] (by rfl) rfl rfl qa_ ?_
   with_reducible refine (Z23.calls k _ _ t1224 _ _ t1227 _ _ t1230 _ _ t1233 t1236 _ (cr_ HO1226) ((Kd.R_reads' HO1226.out).2.1) (cr_ HO1229) ((Kd.R_reads' HO1229.out).2.1) (cr_ HO1232) ((Kd.R_reads' HO1232.out).2.1) (cr_ HO1235) ((Kd.R_reads' HO1235.out).2.1) A9.out).mono ?_
   rintro e w21 ⟨rfl, hb⟩
   refine ⟨_, rfl, ?_⟩
   replace HO1226 := rb_ HO1226 hb
   replace HO1229 := rb_ HO1229 hb
   replace HO1232 := rb_ HO1232 hb
   replace HO1235 := rb_ HO1235 hb
   replace BK1220 := bb_ BK1220 hb
   replace BK1221 := bb_ BK1221 hb
   replace HB := b1_ hb
   clear hb
   refine hK.out _ _ ⟨cz0_ BK1220, cz1_ BK1220, cz0_ BK1221, cz1_ BK1221⟩ (fun hHeld => ?_)
   clear hK K
   refine no_ (some 16) ?_
   refine pu_ 12 (some 17) (bl_ 14 8191) HT_ ?_
   refine pu_ 13 (some 4) (bl_ 14 16383) HT_ ?_
   refine done_ (done_of HT_.out (by kernel_rfl)) ?_
   try go_wp2
   go_ret
   exact ⟨qb_, hB_⟩
  ·replace c6 := Bool.eq_false_iff.mpr c6
   subst c6
   have H1 : (some false) = some r := by rw [if_neg (show ¬ (false = true) by decide)] at H; exact H
   clear H
   have H := H1
   clear H1
   obtain rfl := Option.some.inj H
   go_enter Try.func153, Try.ntmps153
   try go_wp2_with (first | ((with_reducible refine gB_ (N := 2) rfl ?_); refine bx_ 2 #[.slice A0_0 l0_0.length c0_0, .slice A0_1 l0_1.length c0_1] 25 ?_; intro gb1220 hg w22 hbox hb; have BK1220 := A_ hbox; have GW1220 := gw_ w hg; have GE1220 := GW1220; replace HB := b1_ hb; clear hb hbox hg) | ((with_reducible refine gB_ (N := 3) rfl ?_); refine bx_ 3 #[.slice A1_0 l1_0.length c1_0, .slice A1_1 l1_1.length c1_1] 25 ?_; intro gb1221 hg w23 hbox hb; have BK1221 := A_ hbox; have GW1221 := gw_ w hg; have GE1221 := GW1221; replace HB := b1_ hb; have NB1220_1221 := gN_ BK1220 hg; have NB1221_1220 := gP_ BK1220 hg; replace BK1220 := bb_ BK1220 hb; clear hb hbox hg))
   replace BK1220 := A_ (kB_ BK1220.out)
   replace BK1221 := A_ (kB_ BK1221.out)
   replace HB := A_ (bC_ HB.out)
   refine start_ (n := 14) (S := fun w' => w'.cell? ⟨gb1220, 0, none⟩ = some (.slice A0_0 l0_0.length c0_0) ∧ w'.cell? ⟨gb1220, 1, none⟩ = some (.slice A0_1 l0_1.length c0_1) ∧ w'.cell? ⟨gb1221, 0, none⟩ = some (.slice A1_0 l1_0.length c1_0) ∧ w'.cell? ⟨gb1221, 1, none⟩ = some (.slice A1_1 l1_1.length c1_1)) (ds := []) (bl_ 14 0) (by kernel_rfl) rfl (by kernel_rfl) ⟨cz0_ BK1220, cz1_ BK1220, cz0_ BK1221, cz1_ BK1221⟩ (fun hHeld => ?_); refine with_tabW Z11.tab1 Z11.bits1 (fun HT_ HW_ => ?_)
   generalize w23.drew = w24 at BK1220 BK1221 HB hHeld ⊢
   refine ta_ 0 (some 5) (bl_ 14 1) HT_ HW_ hHeld ?_
   refine on_ 1 (some 6) (bl_ 14 3) HT_ (fun K hK => ?_)
   refine gO_ Try.func80 #[.agg #[.slice A0_0 l0_0.length c0_0, .slice A0_1 l0_1.length c0_1]] (by rfl) rfl rfl qa_ ?_
   with_reducible refine (Z37.calls k _ _ l0_0 _ _ l0_1 true _ (cb_ HR0_0) HC0_0.out (cb_ HR0_1) HC0_1.out A3.out).mono ?_
   rintro e w25 ⟨rfl, hb⟩
   refine ⟨_, rfl, ?_⟩
   replace BK1220 := bb_ BK1220 hb
   replace BK1221 := bb_ BK1221 hb
   replace HB := b1_ hb
   clear hb
   refine hK.out _ _ ⟨cz0_ BK1220, cz1_ BK1220, cz0_ BK1221, cz1_ BK1221⟩ (fun hHeld => ?_)
   clear hK K
   refine no_ (some 6) ?_
   refine pu_ 2 (some 7) (bl_ 14 7) HT_ ?_
   refine ta_ 3 (some 8) (bl_ 14 15) HT_ HW_ hHeld ?_
   refine on_ 4 (some 9) (bl_ 14 31) HT_ (fun K hK => ?_)
   refine gO_ Try.func80 #[.agg #[.slice A1_0 l1_0.length c1_0, .slice A1_1 l1_1.length c1_1]] (by rfl) rfl rfl qa_ ?_
   with_reducible refine (Z37.calls k _ _ l1_0 _ _ l1_1 false _ (cb_ HR1_0) HC1_0.out (cb_ HR1_1) HC1_1.out A5.out).mono ?_
   rintro e w26 ⟨rfl, hb⟩
   refine ⟨_, rfl, ?_⟩
   replace BK1220 := bb_ BK1220 hb
   replace BK1221 := bb_ BK1221 hb
   replace HB := b1_ hb
   clear hb
   refine hK.out _ _ ⟨cz0_ BK1220, cz1_ BK1220, cz0_ BK1221, cz1_ BK1221⟩ (fun hHeld => ?_)
   clear hK K
   refine no_ (some 9) ?_
   refine pu_ 5 (some 10) (bl_ 14 63) HT_ ?_
   refine pu_ 6 (some 11) (bl_ 14 127) HT_ ?_
   refine pure_ (i := 7) (N := some 12) (v := undef) (a' := ?_) (bl_ 14 255) rfl rfl (any_of HT_.out (by kernel_rfl)) (fun _ _ _ h => h) (Or.inr ⟨by rfl, rfl⟩) ?_ ?_
   rotate_left
   ·simp only [Act.put, sA_, sB_, sC_, i64_w, i32_w]
    rfl
   refine pure_ (i := 8) (N := some 13) (v := undef) (a' := ?_) (bl_ 14 511) rfl rfl (any_of HT_.out (by kernel_rfl)) (fun _ _ _ h => h) (Or.inr ⟨by rfl, rfl⟩) ?_ ?_
   rotate_left
   ·simp only [Act.put, sA_, sB_, sC_, i64_w, i32_w]
    rfl
   refine pure_ (i := 9) (N := some 14) (v := undef) (a' := ?_) (bl_ 14 1023) rfl rfl (any_of HT_.out (by kernel_rfl)) (fun _ _ _ h => h) (Or.inr ⟨by rfl, rfl⟩) ?_ ?_
   rotate_left
   ·simp only [Act.put, sA_, sB_, sC_, i64_w, i32_w]
    rfl
   refine pure_ (i := 10) (N := some 15) (v := undef) (a' := ?_) (bl_ 14 2047) rfl rfl (any_of HT_.out (by kernel_rfl)) (fun _ _ _ h => h) (Or.inr ⟨by rfl, rfl⟩) ?_ ?_
   rotate_left
   ·simp only [Act.put, sA_, sB_, sC_, i64_w, i32_w]
    rfl
   refine pure_ (i := 11) (N := some 16) (v := undef) (a' := ?_) (bl_ 14 4095) rfl rfl (any_of HT_.out (by kernel_rfl)) (fun _ _ _ h => h) (Or.inr ⟨by rfl, rfl⟩) ?_ ?_
   rotate_left
   ·simp only [Act.put, sA_, sB_, sC_, i64_w, i32_w]
    rfl
   refine pu_ 12 (some 17) (bl_ 14 8191) HT_ ?_
   refine pu_ 13 (some 4) (bl_ 14 16383) HT_ ?_
   refine done_ (done_of HT_.out (by kernel_rfl)) ?_
   try go_wp2
   go_ret
   exact ⟨qb_, hB_⟩
 ·replace c4 := Bool.eq_false_iff.mpr c4
  subst c4
  have H1 : (some false) = some r := by rw [if_neg (show ¬ (false = true) by decide)] at H; exact H
  clear H
  have H := H1
  clear H1
  obtain rfl := Option.some.inj H
  go_enter Try.func153, Try.ntmps153
  try go_wp2_with (first | ((with_reducible refine gB_ (N := 2) rfl ?_); refine bx_ 2 #[.slice A0_0 l0_0.length c0_0, .slice A0_1 l0_1.length c0_1] 25 ?_; intro gb1220 hg w27 hbox hb; have BK1220 := A_ hbox; have GW1220 := gw_ w hg; have GE1220 := GW1220; replace HB := b1_ hb; clear hb hbox hg) | ((with_reducible refine gB_ (N := 3) rfl ?_); refine bx_ 3 #[.slice A1_0 l1_0.length c1_0, .slice A1_1 l1_1.length c1_1] 25 ?_; intro gb1221 hg w28 hbox hb; have BK1221 := A_ hbox; have GW1221 := gw_ w hg; have GE1221 := GW1221; replace HB := b1_ hb; have NB1220_1221 := gN_ BK1220 hg; have NB1221_1220 := gP_ BK1220 hg; replace BK1220 := bb_ BK1220 hb; clear hb hbox hg))
  replace BK1220 := A_ (kB_ BK1220.out)
  replace BK1221 := A_ (kB_ BK1221.out)
  replace HB := A_ (bC_ HB.out)
  refine start_ (n := 14) (S := fun w' => w'.cell? ⟨gb1220, 0, none⟩ = some (.slice A0_0 l0_0.length c0_0) ∧ w'.cell? ⟨gb1220, 1, none⟩ = some (.slice A0_1 l0_1.length c0_1)) (ds := []) (bl_ 14 0) (by kernel_rfl) rfl (by kernel_rfl) ⟨cz0_ BK1220, cz1_ BK1220⟩ (fun hHeld => ?_); refine with_tabW Z11.tab1 Z11.bits1 (fun HT_ HW_ => ?_)
  generalize w28.drew = w29 at BK1220 BK1221 HB hHeld ⊢
  refine ta_ 0 (some 5) (bl_ 14 1) HT_ HW_ hHeld ?_
  refine on_ 1 (some 6) (bl_ 14 3) HT_ (fun K hK => ?_)
  refine gO_ Try.func80 #[.agg #[.slice A0_0 l0_0.length c0_0, .slice A0_1 l0_1.length c0_1]] (by rfl) rfl rfl qa_ ?_
  with_reducible refine (Z37.calls k _ _ l0_0 _ _ l0_1 false _ (cb_ HR0_0) HC0_0.out (cb_ HR0_1) HC0_1.out A3.out).mono ?_
  rintro e w30 ⟨rfl, hb⟩
  refine ⟨_, rfl, ?_⟩
  replace BK1220 := bb_ BK1220 hb
  replace BK1221 := bb_ BK1221 hb
  replace HB := b1_ hb
  clear hb
  refine hK.out _ _ ⟨cz0_ BK1220, cz1_ BK1220⟩ (fun hHeld => ?_)
  clear hK K
  refine no_ (some 6) ?_
  refine pu_ 2 (some 7) (bl_ 14 7) HT_ ?_
  refine pure_ (i := 3) (N := some 8) (v := undef) (a' := ?_) (bl_ 14 15) rfl rfl (any_of HT_.out (by kernel_rfl)) (fun _ _ _ h => h) (Or.inr ⟨by rfl, rfl⟩) ?_ ?_
  rotate_left
  ·simp only [Act.put, sA_, sB_, sC_, i64_w, i32_w]
   rfl
  refine pure_ (i := 4) (N := some 9) (v := undef) (a' := ?_) (bl_ 14 31) rfl rfl (any_of HT_.out (by kernel_rfl)) (fun _ _ _ h => h) (Or.inr ⟨by rfl, rfl⟩) ?_ ?_
  rotate_left
  ·simp only [Act.put, sA_, sB_, sC_, i64_w, i32_w]
   rfl
  refine pu_ 5 (some 10) (bl_ 14 63) HT_ ?_
  refine pu_ 6 (some 11) (bl_ 14 127) HT_ ?_
  refine pure_ (i := 7) (N := some 12) (v := undef) (a' := ?_) (bl_ 14 255) rfl rfl (any_of HT_.out (by kernel_rfl)) (fun _ _ _ h => h) (Or.inr ⟨by rfl, rfl⟩) ?_ ?_
  rotate_left
  ·simp only [Act.put, sA_, sB_, sC_, i64_w, i32_w]
   rfl
  refine pure_ (i := 8) (N := some 13) (v := undef) (a' := ?_) (bl_ 14 511) rfl rfl (any_of HT_.out (by kernel_rfl)) (fun _ _ _ h => h) (Or.inr ⟨by rfl, rfl⟩) ?_ ?_
  rotate_left
  ·simp only [Act.put, sA_, sB_, sC_, i64_w, i32_w]
   rfl
  refine pure_ (i := 9) (N := some 14) (v := undef) (a' := ?_) (bl_ 14 1023) rfl rfl (any_of HT_.out (by kernel_rfl)) (fun _ _ _ h => h) (Or.inr ⟨by rfl, rfl⟩) ?_ ?_
  rotate_left
  ·simp only [Act.put, sA_, sB_, sC_, i64_w, i32_w]
   rfl
  refine pure_ (i := 10) (N := some 15) (v := undef) (a' := ?_) (bl_ 14 2047) rfl rfl (any_of HT_.out (by kernel_rfl)) (fun _ _ _ h => h) (Or.inr ⟨by rfl, rfl⟩) ?_ ?_
  rotate_left
  ·simp only [Act.put, sA_, sB_, sC_, i64_w, i32_w]
   rfl
  refine pure_ (i := 11) (N := some 16) (v := undef) (a' := ?_) (bl_ 14 4095) rfl rfl (any_of HT_.out (by kernel_rfl)) (fun _ _ _ h => h) (Or.inr ⟨by rfl, rfl⟩) ?_ ?_
  rotate_left
  ·simp only [Act.put, sA_, sB_, sC_, i64_w, i32_w]
   rfl
  refine pu_ 12 (some 17) (bl_ 14 8191) HT_ ?_
  refine pu_ 13 (some 4) (bl_ 14 16383) HT_ ?_
  refine done_ (done_of HT_.out (by kernel_rfl)) ?_
  try go_wp2
  go_ret
  exact ⟨qb_, hB_⟩
def Z36.f (k : Nat) (l0_0 : List Int) (l0_1 : List Int) (a1 : ByteArray) : Option (Bool) := (Z57.f k l0_0 l0_1 a1).bind fun bt1238 => (if bt1238.2.2 = true then ((Z11.f k bt1238.1 bt1238.2.1 l0_0 l0_1).bind fun t1246 => (some t1246)) else (some false))
theorem Z36.mono : ∀ a0 a1 a2 k, LeO (Z36.f k a0 a1 a2) (Z36.f (k + 1) a0 a1 a2) := by
 intro a0 a1 a2 k
 unfold Z36.f
 repeat' first|exact Z11.mono _ _ _ _ _|exact Z57.mono _ _ _ _|exact lo_|refine LeO.ite ?_ ?_|refine LeO.bind ?_ (fun _ => ?_)
set_option maxHeartbeats 8000000 in
set_option maxRecDepth 100000 in
theorem Z36.calls (k : Nat) (A0_0 : Option Addr) (c0_0 : Nat) (l0_0 : List Int) (A0_1 : Option Addr) (c0_1 : Nat) (l0_1 : List Int) (a1 : ByteArray) (r : Bool) (w : World) (hr0_0 : Kd.C (Kd.int .i64) w A0_0 l0_0.length l0_0) (hc0_0 : l0_0.length ≤ c0_0) (hr0_1 : Kd.C (Kd.int .i64) w A0_1 l0_1.length l0_1) (hc0_1 : l0_1.length ≤ c0_1) (h : Z36.f k l0_0 l0_1 a1 = some r) :
  Calls Try.prog 122 #[.agg #[.slice A0_0 l0_0.length c0_0, .slice A0_1 l0_1.length c0_1], .string a1] w fun e w' => e = .returned (.bool r) ∧ Below w.heap.size w w' := by
 have hu25 := Try.underlying25
 have HR0_0 := A_ hr0_0
 have HC0_0 := A_ hc0_0
 clear hr0_0 hc0_0
 have HR0_1 := A_ hr0_1
 have HC0_1 := A_ hc0_1
 clear hr0_1 hc0_1
 have HB := A_ (Below.refl w.heap.size w)
 have H := h
 unfold Z36.f at H
 clear h
 obtain ⟨⟨t1238, t1241, t1244⟩, A3, H⟩ := bi_ H
 try dsimp only at H
 by_cases c4 : t1244 = true
 ·subst c4
  rw [if_pos rfl] at H
  obtain ⟨t1246, A5, H⟩ := bi_ H
  obtain rfl := Option.some.inj H
  go_enter Try.func122, Try.ntmps122
  go_wp2_with (first | ((with_reducible refine gB_ (N := 2) rfl ?_); refine bx_ 2 #[.slice A0_0 l0_0.length c0_0, .slice A0_1 l0_1.length c0_1] 25 ?_; intro gb1237 hg w6 hbox hb; have BK1237 := A_ hbox; have GW1237 := gw_ w hg; have GE1237 := GW1237; replace HB := b1_ hb; clear hb hbox hg; obtain ⟨hcz7_0, hcz7_1, hfz7_0, hfz7_1⟩ := c2_ BK1237) | ((with_reducible refine gA_ (f := 152) rfl ?_); refine gL_ (some 10) Try.func152 #[.agg #[.slice A0_0 l0_0.length c0_0, .slice A0_1 l0_1.length c0_1], .string a1] rfl qa_ ?_; (with_reducible refine (Z57.calls k _ _ l0_0 _ _ l0_1 a1 t1238 t1241 true _ (cb_ HR0_0) HC0_0.out (cb_ HR0_1) HC0_1.out A3.out).mono ?_); rintro e w8 ⟨v1239, v1242, rfl, ho0, ho1, hb⟩; refine ⟨_, rfl, ?_⟩; have HO1240 := rl_ w ho0; have HO1243 := rl_ w ho1; replace BK1237 := bb_ BK1237 hb; replace HB := b1_ hb; clear hb ho0 ho1) | ((with_reducible refine gB_ (N := 5) rfl ?_); refine bx_ 5 #[.slice none 0 0, .slice none 0 0] 25 ?_; intro gb1245 hg w9 hbox hb; replace HO1240 := rb_ HO1240 hb; replace HO1243 := rb_ HO1243 hb; have BK1245 := A_ hbox; have GW1245 := gw_ w hg; have GE1245 := GW1245; replace HB := b1_ hb; have NB1237_1245 := gN_ BK1237 hg; have NB1245_1237 := gP_ BK1237 hg; replace BK1237 := bb_ BK1237 hb; clear hb hbox hg; obtain ⟨Ao10, co10, eo10⟩ := Kd.R_slice HO1240.out; subst eo10; have hnb11 := NB1245_1237.out; have hnc11 := NB1237_1245.out; obtain ⟨hcz12_0, hcz12_1, hfz12_0, hfz12_1⟩ := c2_ BK1245; obtain ⟨Ao13, co13, eo13⟩ := Kd.R_slice HO1243.out; subst eo13; obtain ⟨hcz14_0, hcz14_1, hfz14_0, hfz14_1⟩ := c2_ BK1237) | (go_at_call 153; (with_reducible refine (Z11.calls k _ _ t1238 _ _ t1241 _ _ l0_0 _ _ l0_1 t1246 _ ?side1 ?side2 ?side3 ?side4 ?side5 ?side6 ?side7 ?side8 A5.out).mono ?_); (case side1 => refine (Kd.R_reads' (e := 3) (base := w.heap.size) (ok := fun k_ => some k_ ≠ (.slice Ao13 t1241.length co13 : Value).ownBlock) (n := t1238.length) (c := co10) ?_).2.2; exact (rw_ (fa_ HO1240 BK1245))); (case side2 => exact (Kd.R_reads' HO1240.out).2.1); (case side3 => refine (Kd.R_reads' (e := 3) (base := w.heap.size) (ok := fun k_ => some k_ ≠ (.slice Ao10 t1238.length co10 : Value).ownBlock) (n := t1241.length) (c := co13) ?_).2.2; exact (rw_ (fa_ HO1243 BK1245))); (case side4 => exact (Kd.R_reads' HO1243.out).2.1); (case side5 => exact cD_ HR0_0.out hB_); (case side6 => exact HC0_0.out); (case side7 => exact cD_ HR0_1.out hB_); (case side8 => exact HC0_1.out); rintro e w15 ⟨rfl, hb⟩; replace HO1240 := A_ (rD_ (rw_ (fa_ HO1240 BK1245)) hb); replace HO1243 := A_ (rD_ (rw_ (fa_ HO1243 BK1245)) hb); replace BK1237 := A_ (kE_ (g := gb1237) (o := .cells #[.slice A0_0 l0_0.length c0_0, .slice A0_1 l0_1.length c0_1] 25 (0, 0)) (by (with_reducible repeat (first | refine kA_ ?_ _ | refine kB_ ?_ | refine kC_ ?_ _)); refine blk_far ?_ NB1237_1245.out _; (with_reducible repeat (first | refine kA_ ?_ _ | refine kB_ ?_ | refine kC_ ?_ _)); refine blk_far ?_ NB1237_1245.out _; (with_reducible repeat (first | refine kA_ ?_ _ | refine kB_ ?_ | refine kC_ ?_ _)); exact BK1237.out) hb); replace BK1245 := A_ (kE_ (g := gb1245) (o := .cells #[.slice Ao10 t1238.length co10, .slice Ao13 t1241.length co13] 25 (0, 0)) qp_ hb); replace HB := b1_ hb; clear hb))
  go_ret
  exact ⟨qb_, hB_⟩
 ·replace c4 := Bool.eq_false_iff.mpr c4
  subst c4
  have H1 : (some false) = some r := by rw [if_neg (show ¬ (false = true) by decide)] at H; exact H
  clear H
  have H := H1
  clear H1
  obtain rfl := Option.some.inj H
  go_enter Try.func122, Try.ntmps122
  go_wp2_with (first | ((with_reducible refine gB_ (N := 2) rfl ?_); refine bx_ 2 #[.slice A0_0 l0_0.length c0_0, .slice A0_1 l0_1.length c0_1] 25 ?_; intro gb1237 hg w16 hbox hb; have BK1237 := A_ hbox; have GW1237 := gw_ w hg; have GE1237 := GW1237; replace HB := b1_ hb; clear hb hbox hg; obtain ⟨hcz17_0, hcz17_1, hfz17_0, hfz17_1⟩ := c2_ BK1237) | ((with_reducible refine gA_ (f := 152) rfl ?_); refine gL_ (some 10) Try.func152 #[.agg #[.slice A0_0 l0_0.length c0_0, .slice A0_1 l0_1.length c0_1], .string a1] rfl qa_ ?_; (with_reducible refine (Z57.calls k _ _ l0_0 _ _ l0_1 a1 t1238 t1241 false _ (cb_ HR0_0) HC0_0.out (cb_ HR0_1) HC0_1.out A3.out).mono ?_); rintro e w18 ⟨v1239, v1242, rfl, ho0, ho1, hb⟩; refine ⟨_, rfl, ?_⟩; have HO1240 := rl_ w ho0; have HO1243 := rl_ w ho1; replace BK1237 := bb_ BK1237 hb; replace HB := b1_ hb; clear hb ho0 ho1) | ((with_reducible refine gB_ (N := 5) rfl ?_); refine bx_ 5 #[.slice none 0 0, .slice none 0 0] 25 ?_; intro gb1245 hg w19 hbox hb; replace HO1240 := rb_ HO1240 hb; replace HO1243 := rb_ HO1243 hb; have BK1245 := A_ hbox; have GW1245 := gw_ w hg; have GE1245 := GW1245; replace HB := b1_ hb; have NB1237_1245 := gN_ BK1237 hg; have NB1245_1237 := gP_ BK1237 hg; replace BK1237 := bb_ BK1237 hb; clear hb hbox hg; obtain ⟨Ao20, co20, eo20⟩ := Kd.R_slice HO1240.out; subst eo20; have hnb21 := NB1245_1237.out; have hnc21 := NB1237_1245.out; obtain ⟨hcz22_0, hcz22_1, hfz22_0, hfz22_1⟩ := c2_ BK1245; obtain ⟨Ao23, co23, eo23⟩ := Kd.R_slice HO1243.out; subst eo23))
  go_ret
  exact ⟨qb_, hB_⟩
def Z53.l0 : Nat → ByteArray → Int → List (S25) → Int → Int → Option (Int)
 | 0, _, _, _, _, _ => none
 | k + 1, x1, x7, x17, x18, x19 => if x19 < x18 then (if 0 ≤ x19 then (if x19 < (x17.length : Int) then ((Z36.f k ((rd_T25 x17 x19).f0) ((rd_T25 x17 x19).f1) x1).bind fun t1254 => (if t1254 = true then (Z53.l0 k x1 (wrap64 (x7 + 1)) x17 x18 (wrap64 (x19 + 1))) else (Z53.l0 k x1 x7 x17 x18 (wrap64 (x19 + 1))))) else (none)) else (none)) else (some x7)
def Z53.f (k : Nat) (l0_0 : List Int) (l0_1 : List Int) (a1 : ByteArray) : Option (Int) := (Z56.f k l0_0 l0_1).bind fun bt1248 => (if bt1248.2 = true then (Z53.l0 k a1 0 bt1248.1 (bt1248.1.length : Int) 0) else (some (-1)))
theorem Z53.mono_l : ∀ k, (∀ y0 y1 y2 y3 y4, LeO (Z53.l0 k y0 y1 y2 y3 y4) (Z53.l0 (k + 1) y0 y1 y2 y3 y4))
 | 0 => fun _ _ _ _ _ r h => by simp [Z53.l0] at h
 | k + 1 => by
  have ih0 := Z53.mono_l k
  ·intro y0 y1 y2 y3 y4
   unfold Z53.l0
   repeat' first|exact ih0 _ _ _ _ _|exact Z36.mono _ _ _ _|exact Z56.mono _ _ _|exact lo_|refine LeO.ite ?_ ?_|refine LeO.bind ?_ (fun _ => ?_)
theorem Z53.mono : ∀ a0 a1 a2 k, LeO (Z53.f k a0 a1 a2) (Z53.f (k + 1) a0 a1 a2) := by
 intro a0 a1 a2 k
 have ih0 := Z53.mono_l k
 unfold Z53.f
 repeat' first|exact ih0 _ _ _ _ _|exact Z36.mono _ _ _ _|exact Z56.mono _ _ _|exact lo_|refine LeO.ite ?_ ?_|refine LeO.bind ?_ (fun _ => ?_)
set_option maxHeartbeats 8000000 in
set_option maxRecDepth 100000 in
theorem Z53.calls (k : Nat) (A0_0 : Option Addr) (c0_0 : Nat) (l0_0 : List Int) (A0_1 : Option Addr) (c0_1 : Nat) (l0_1 : List Int) (a1 : ByteArray) (r : Int) (w : World) (hr0_0 : Kd.C (Kd.int .i64) w A0_0 l0_0.length l0_0) (hc0_0 : l0_0.length ≤ c0_0) (hr0_1 : Kd.C (Kd.int .i64) w A0_1 l0_1.length l0_1) (hc0_1 : l0_1.length ≤ c0_1) (h : Z53.f k l0_0 l0_1 a1 = some r) :
  Calls Try.prog 85 #[.agg #[.slice A0_0 l0_0.length c0_0, .slice A0_1 l0_1.length c0_1], .string a1] w fun e w' => e = .returned (.int .i64 r) ∧ Below w.heap.size w w' := by
 have hu25 := Try.underlying25
 have HR0_0 := A_ hr0_0
 have HC0_0 := A_ hc0_0
 clear hr0_0 hc0_0
 have HR0_1 := A_ hr0_1
 have HC0_1 := A_ hc0_1
 clear hr0_1 hc0_1
 have HB := A_ (Below.refl w.heap.size w)
 have H := h
 unfold Z53.f at H
 clear h
 obtain ⟨⟨t1248, t1251⟩, A3, H⟩ := bi_ H
 try dsimp only at H
 by_cases c4 : t1251 = true
 ·subst c4
  rw [if_pos rfl] at H
  have H' := A_ H
  clear H
  go_enter Try.func85, Try.ntmps85
  go_wp2_with (first | ((with_reducible refine gB_ (N := 2) rfl ?_); refine bx_ 2 #[.slice A0_0 l0_0.length c0_0, .slice A0_1 l0_1.length c0_1] 25 ?_; intro gb1247 hg w5 hbox hb; have BK1247 := A_ hbox; have GW1247 := gw_ w hg; have GE1247 := GW1247; replace HB := b1_ hb; clear hb hbox hg; obtain ⟨hcz6_0, hcz6_1, hfz6_0, hfz6_1⟩ := c2_ BK1247) | ((with_reducible refine gA_ (f := 39) rfl ?_); refine gL_ (some 12) Try.func39 #[.agg #[.slice A0_0 l0_0.length c0_0, .slice A0_1 l0_1.length c0_1]] rfl qa_ ?_; (with_reducible refine (Z56.calls k _ _ l0_0 _ _ l0_1 t1248 true _ (cb_ HR0_0) HC0_0.out (cb_ HR0_1) HC0_1.out A3.out).mono ?_); rintro e w7 ⟨v1249, rfl, ho0, hb⟩; refine ⟨_, rfl, ?_⟩; have HO1250 := A_ (Kd.N_lower (Kd.N_mono (ok' := fun k_ => k_ ≠ gb1247) ho0 (fun k_ hk_ => (Kd.freshB (kk_ BK1247) k_ hk_))) (bF_ hB_)); replace BK1247 := bb_ BK1247 hb; replace HB := b1_ hb; clear hb ho0; obtain ⟨Ao8, co8, eo8⟩ := Kd.N_slice HO1250.out; subst eo8))
  go_loopg [7, 19] k (fun kq v7 v19 w' => ∃ (x7_1 : Int) (x19_1 : Int), v7 = .int .i64 x7_1 ∧ v19 = .int .i64 x19_1 ∧ Aside0 (Z53.l0 kq a1 x7_1 t1248 (t1248.length : Int) x19_1 = some r) ∧ Aside0 (kq ≤ k) ∧ Aside0 (Kd.N k25 25 w' w.heap.size (fun k_ => k_ ≠ gb1247) (.slice Ao8 t1248.length co8) t1248) ∧ Aside0 (w'.heap[gb1247]? = some (.cells #[(.slice A0_0 l0_0.length c0_0), (.slice A0_1 l0_1.length c0_1)] 25 (0, 0))) ∧ Aside0 (Below w.heap.size w w'))
  case atStart => exact ⟨(0), (0), qc_, qc_, H', ⟨nA_ _⟩, ⟨by (with_reducible repeat (first | apply Kd.N_alloc | apply Kd.N_drewN | apply Kd.N_drew)); exact HO1250.out⟩, ⟨(kk_ BK1247)⟩, ⟨hB_⟩⟩
  case round =>
   clear H'
   obtain ⟨x7_1, x19_1, rfl, rfl, HA, HK1, HO_17, BK1247, HB⟩ := hrel
   cases gk with
   | zero => exact absurd HA.out (by simp [Z53.l0])
   | succ k1 =>
    have H := HA.out
    clear HA
    simp only [Z53.l0] at H
    by_cases c9 : x19_1 < (t1248.length : Int)
    ·rw [if_pos c9] at H
     have c9b0 := oC_ c9
     clear c9
     have c10 := cp_ H
     replace H := ca_ H
     have c10b0 := oC_ c10
     clear c10
     have c11 := cp_ H
     replace H := ca_ H
     have c11b0 := oC_ c11
     clear c11
     obtain ⟨t1254, A12, H⟩ := bi_ H
     by_cases c13 : t1254 = true
     ·subst c13
      rw [if_pos rfl] at H
      have H' := A_ H
      clear H
      have p1252 : 0 ≤ (x19_1 : Int) := oB_ qe_
      have q1252 : x19_1 < (t1248.length : Int) := oB_ qe_
      obtain ⟨ad1252, A1252_0, c1252_0, A1252_1, c1252_1, e1252, hx1252_0, hx1252_1, hl1252_0, hi1252_0, hl1252_1, hi1252_1⟩ := at_T25 (Kd.N_reads' HO_17.out).2.2 x19_1 p1252 q1252
      cases e1252
      obtain ⟨ce1252, hce1252, hMe1252, hcc1252⟩ := Kd.N_get HO_17.out z25 x19_1 p1252 (by first | exact q1252 | exact oB_ qe_ | (have e_ := (Kd.N_reads' HO_17.out).1; omega))
      obtain ⟨ua1252_0, uc1252_0, ua1252_1, uc1252_1, rfl, ul1252_0, ge1252_0, ul1252_1, ge1252_1⟩ := k25_openF hMe1252
      have hv1252_0 := hcc1252 0 _ rfl
      rw [Nat.add_zero] at hv1252_0
      replace hv1252_0 := Option.some.inj (hv1252_0.symm.trans hx1252_0)
      injection hv1252_0 with hva_ hvn_ hvc_
      rw [hva_] at ge1252_0
      rw [hvc_] at ul1252_0
      have HL1252_0 := A_ (show Kd.V (Kd.int .i64) 3 _ w.heap.size _ _ ((rd_T25 t1248 x19_1).f0) from Kd.V_mk ul1252_0 ge1252_0)
      clear hva_ hvn_ hvc_ ge1252_0 ul1252_0
      have hv1252_1 := hcc1252 1 _ rfl
      rw [add_field _ _ 1 (by omega)] at hv1252_1
      replace hv1252_1 := Option.some.inj (hv1252_1.symm.trans hx1252_1)
      injection hv1252_1 with hva_ hvn_ hvc_
      rw [hva_] at ge1252_1
      rw [hvc_] at ul1252_1
      have HL1252_1 := A_ (show Kd.V (Kd.int .i64) 3 _ w.heap.size _ _ ((rd_T25 t1248 x19_1).f1) from Kd.V_mk ul1252_1 ge1252_1)
      clear hva_ hvn_ hvc_ ge1252_1 ul1252_1
      clear hcc1252 hce1252
      have HR1252_0 := A_ hi1252_0
      have HC1252_0 := A_ hl1252_0
      clear hi1252_0 hl1252_0
      have HR1252_1 := A_ hi1252_1
      have HC1252_1 := A_ hl1252_1
      clear hi1252_1 hl1252_1
      replace p1252 := eq_true p1252
      replace q1252 := eq_true q1252
      go_wp2_with (first | ((with_reducible refine gB_ (N := 9) rfl ?_); refine bx_ 9 #[.slice none 0 0, .slice none 0 0] 25 ?_; intro gb1253 hg w14 hbox hb; replace HO_17 := A_ (Kd.N_below (Kd.N_elderB (by (with_reducible repeat (first | apply Kd.N_alloc | apply Kd.N_drewN | apply Kd.N_drew)); exact HO_17.out) gb1253 (Nat.le_of_eq hg.symm)) hb); replace HL1252_0 := A_ (Kd.V_below (Kd.V_elderB (by (with_reducible repeat (first | apply Kd.V_alloc | apply Kd.V_drewN | apply Kd.V_drew)); exact HL1252_0.out) gb1253 (Nat.le_of_eq hg.symm)) hb); replace HL1252_1 := A_ (Kd.V_below (Kd.V_elderB (by (with_reducible repeat (first | apply Kd.V_alloc | apply Kd.V_drewN | apply Kd.V_drew)); exact HL1252_1.out) gb1253 (Nat.le_of_eq hg.symm)) hb); replace HR1252_0 := A_ (cD_ (by repeat (first | (with_reducible exact HR1252_0.out) | (with_reducible refine cA_ ?_ _) | (with_reducible refine cB_ ?_ _) | (with_reducible refine cC_ ?_) | exact HR1252_0.out)) hb); replace HR1252_1 := A_ (cD_ (by repeat (first | (with_reducible exact HR1252_1.out) | (with_reducible refine cA_ ?_ _) | (with_reducible refine cB_ ?_ _) | (with_reducible refine cC_ ?_) | exact HR1252_1.out)) hb); have BK1253 := A_ hbox; have GW1253 := gw_ w hg; have GE1253 := GW1253; replace HB := b1_ hb; have NB1247_1253 := gN_ BK1247 hg; have NB1253_1247 := gP_ BK1247 hg; replace BK1247 := bb_ BK1247 hb; clear hb hbox hg; have hnb15 := NB1253_1247.out; have hnc15 := NB1247_1253.out; obtain ⟨hcz16_0, hcz16_1, hfz16_0, hfz16_1⟩ := c2_ BK1253) | ((with_reducible refine gA_ (f := 122) rfl ?_); refine gL_ (some 25) Try.func122 #[.agg #[.slice A1252_0 ((rd_T25 t1248 x19_1).f0).length c1252_0, .slice A1252_1 ((rd_T25 t1248 x19_1).f1).length c1252_1], .string a1] rfl qa_ ?_; (with_reducible refine (Z36.calls k1 _ _ ((rd_T25 t1248 x19_1).f0) _ _ ((rd_T25 t1248 x19_1).f1) a1 true _ ?side1 ?side2 ?side3 ?side4 A12.out).mono ?_); (case side1 => repeat (first | exact ((Kd.V_reads' (by (with_reducible repeat (first | apply Kd.V_alloc | apply Kd.V_drewN | apply Kd.V_drew)); exact (Kd.V_mono (Kd.V_far (p := ⟨gb1253, 1, none⟩) (Kd.V_far (p := ⟨gb1253, 0, none⟩) (Kd.V_mono HL1252_0.out (fun k_ hk => (⟨hk, hk.2⟩ : _ ∧ k_ ≠ gb1253))) (fun _ hk => hk.2) (.slice A1252_0 ((rd_T25 t1248 x19_1).f0).length c1252_0)) (fun _ hk => hk.2) (.slice A1252_1 ((rd_T25 t1248 x19_1).f1).length c1252_1)) (fun _ h_ => h_.1)))).2.2) | (with_reducible first | refine cA_ ?_ _ | refine cB_ ?_ _ | refine cC_ ?_))); (case side2 => exact HC1252_0.out); (case side3 => repeat (first | exact ((Kd.V_reads' (by (with_reducible repeat (first | apply Kd.V_alloc | apply Kd.V_drewN | apply Kd.V_drew)); exact (Kd.V_mono (Kd.V_far (p := ⟨gb1253, 1, none⟩) (Kd.V_far (p := ⟨gb1253, 0, none⟩) (Kd.V_mono HL1252_1.out (fun k_ hk => (⟨hk, hk.2⟩ : _ ∧ k_ ≠ gb1253))) (fun _ hk => hk.2) (.slice A1252_0 ((rd_T25 t1248 x19_1).f0).length c1252_0)) (fun _ hk => hk.2) (.slice A1252_1 ((rd_T25 t1248 x19_1).f1).length c1252_1)) (fun _ h_ => h_.1)))).2.2) | (with_reducible first | refine cA_ ?_ _ | refine cB_ ?_ _ | refine cC_ ?_))); (case side4 => exact HC1252_1.out); rintro e w17 ⟨rfl, hb⟩; refine ⟨_, rfl, ?_⟩; replace HO_17 := A_ (Kd.N_below (by (with_reducible repeat (first | apply Kd.N_alloc | apply Kd.N_drewN | apply Kd.N_drew)); exact (Kd.N_mono (Kd.N_far (p := ⟨gb1253, 1, none⟩) (Kd.N_far (p := ⟨gb1253, 0, none⟩) (Kd.N_mono HO_17.out (fun k_ hk => (⟨hk, hk.2⟩ : _ ∧ k_ ≠ gb1253))) (fun _ hk => hk.2) (.slice A1252_0 ((rd_T25 t1248 x19_1).f0).length c1252_0)) (fun _ hk => hk.2) (.slice A1252_1 ((rd_T25 t1248 x19_1).f1).length c1252_1)) (fun _ h_ => h_.1))) hb); replace BK1247 := A_ (kE_ (g := gb1247) (o := .cells #[.slice A0_0 l0_0.length c0_0, .slice A0_1 l0_1.length c0_1] 25 (0, 0)) (by (with_reducible repeat (first | refine kA_ ?_ _ | refine kB_ ?_ | refine kC_ ?_ _)); refine blk_far ?_ NB1247_1253.out _; (with_reducible repeat (first | refine kA_ ?_ _ | refine kB_ ?_ | refine kC_ ?_ _)); refine blk_far ?_ NB1247_1253.out _; (with_reducible repeat (first | refine kA_ ?_ _ | refine kB_ ?_ | refine kC_ ?_ _)); exact BK1247.out) hb); replace HR1252_0 := A_ (cD_ ((Kd.V_reads' (by (with_reducible repeat (first | apply Kd.V_alloc | apply Kd.V_drewN | apply Kd.V_drew)); exact (Kd.V_mono (Kd.V_far (p := ⟨gb1253, 1, none⟩) (Kd.V_far (p := ⟨gb1253, 0, none⟩) (Kd.V_mono HL1252_0.out (fun k_ hk => (⟨hk, hk.2⟩ : _ ∧ k_ ≠ gb1253))) (fun _ hk => hk.2) (.slice A1252_0 ((rd_T25 t1248 x19_1).f0).length c1252_0)) (fun _ hk => hk.2) (.slice A1252_1 ((rd_T25 t1248 x19_1).f1).length c1252_1)) (fun _ h_ => h_.1)))).2.2) hb); replace HL1252_0 := A_ (Kd.V_below (by (with_reducible repeat (first | apply Kd.V_alloc | apply Kd.V_drewN | apply Kd.V_drew)); exact (Kd.V_mono (Kd.V_far (p := ⟨gb1253, 1, none⟩) (Kd.V_far (p := ⟨gb1253, 0, none⟩) (Kd.V_mono HL1252_0.out (fun k_ hk => (⟨hk, hk.2⟩ : _ ∧ k_ ≠ gb1253))) (fun _ hk => hk.2) (.slice A1252_0 ((rd_T25 t1248 x19_1).f0).length c1252_0)) (fun _ hk => hk.2) (.slice A1252_1 ((rd_T25 t1248 x19_1).f1).length c1252_1)) (fun _ h_ => h_.1))) hb); replace HR1252_1 := A_ (cD_ ((Kd.V_reads' (by (with_reducible repeat (first | apply Kd.V_alloc | apply Kd.V_drewN | apply Kd.V_drew)); exact (Kd.V_mono (Kd.V_far (p := ⟨gb1253, 1, none⟩) (Kd.V_far (p := ⟨gb1253, 0, none⟩) (Kd.V_mono HL1252_1.out (fun k_ hk => (⟨hk, hk.2⟩ : _ ∧ k_ ≠ gb1253))) (fun _ hk => hk.2) (.slice A1252_0 ((rd_T25 t1248 x19_1).f0).length c1252_0)) (fun _ hk => hk.2) (.slice A1252_1 ((rd_T25 t1248 x19_1).f1).length c1252_1)) (fun _ h_ => h_.1)))).2.2) hb); replace HL1252_1 := A_ (Kd.V_below (by (with_reducible repeat (first | apply Kd.V_alloc | apply Kd.V_drewN | apply Kd.V_drew)); exact (Kd.V_mono (Kd.V_far (p := ⟨gb1253, 1, none⟩) (Kd.V_far (p := ⟨gb1253, 0, none⟩) (Kd.V_mono HL1252_1.out (fun k_ hk => (⟨hk, hk.2⟩ : _ ∧ k_ ≠ gb1253))) (fun _ hk => hk.2) (.slice A1252_0 ((rd_T25 t1248 x19_1).f0).length c1252_0)) (fun _ hk => hk.2) (.slice A1252_1 ((rd_T25 t1248 x19_1).f1).length c1252_1)) (fun _ h_ => h_.1))) hb); replace BK1253 := A_ (kE_ (g := gb1253) (o := .cells #[.slice A1252_0 ((rd_T25 t1248 x19_1).f0).length c1252_0, .slice A1252_1 ((rd_T25 t1248 x19_1).f1).length c1252_1] 25 (0, 0)) qp_ hb); replace HB := b1_ hb; clear hb))
      go_roundg k1
      case measure => have := HK1.out; omega
      case rel => exact ⟨(wrap64 (x7_1 + 1)), (wrap64 (x19_1 + 1)), qc_, qc_, H', ⟨by have := HK1.out; omega⟩, ⟨by (with_reducible repeat (first | apply Kd.N_alloc | apply Kd.N_drewN | apply Kd.N_drew)); exact Kd.N_mono HO_17.out (fun _ hk => hk.1)⟩, ⟨(kk_ BK1247)⟩, ⟨hB_⟩⟩
     ·replace c13 := Bool.eq_false_iff.mpr c13
      subst c13
      have H1 : (Z53.l0 k1 a1 x7_1 t1248 (t1248.length : Int) (wrap64 (x19_1 + 1))) = some r := by rw [if_neg (show ¬ (false = true) by decide)] at H; exact H
      clear H
      have H := H1
      clear H1
      have H' := A_ H
      clear H
      have p1252 : 0 ≤ (x19_1 : Int) := oB_ qe_
      have q1252 : x19_1 < (t1248.length : Int) := oB_ qe_
      obtain ⟨ad1252, A1252_0, c1252_0, A1252_1, c1252_1, e1252, hx1252_0, hx1252_1, hl1252_0, hi1252_0, hl1252_1, hi1252_1⟩ := at_T25 (Kd.N_reads' HO_17.out).2.2 x19_1 p1252 q1252
      cases e1252
      obtain ⟨ce1252, hce1252, hMe1252, hcc1252⟩ := Kd.N_get HO_17.out z25 x19_1 p1252 (by first | exact q1252 | exact oB_ qe_ | (have e_ := (Kd.N_reads' HO_17.out).1; omega))
      obtain ⟨ua1252_0, uc1252_0, ua1252_1, uc1252_1, rfl, ul1252_0, ge1252_0, ul1252_1, ge1252_1⟩ := k25_openF hMe1252
      have hv1252_0 := hcc1252 0 _ rfl
      rw [Nat.add_zero] at hv1252_0
      replace hv1252_0 := Option.some.inj (hv1252_0.symm.trans hx1252_0)
      injection hv1252_0 with hva_ hvn_ hvc_
      rw [hva_] at ge1252_0
      rw [hvc_] at ul1252_0
      have HL1252_0 := A_ (show Kd.V (Kd.int .i64) 3 _ w.heap.size _ _ ((rd_T25 t1248 x19_1).f0) from Kd.V_mk ul1252_0 ge1252_0)
      clear hva_ hvn_ hvc_ ge1252_0 ul1252_0
      have hv1252_1 := hcc1252 1 _ rfl
      rw [add_field _ _ 1 (by omega)] at hv1252_1
      replace hv1252_1 := Option.some.inj (hv1252_1.symm.trans hx1252_1)
      injection hv1252_1 with hva_ hvn_ hvc_
      rw [hva_] at ge1252_1
      rw [hvc_] at ul1252_1
      have HL1252_1 := A_ (show Kd.V (Kd.int .i64) 3 _ w.heap.size _ _ ((rd_T25 t1248 x19_1).f1) from Kd.V_mk ul1252_1 ge1252_1)
      clear hva_ hvn_ hvc_ ge1252_1 ul1252_1
      clear hcc1252 hce1252
      have HR1252_0 := A_ hi1252_0
      have HC1252_0 := A_ hl1252_0
      clear hi1252_0 hl1252_0
      have HR1252_1 := A_ hi1252_1
      have HC1252_1 := A_ hl1252_1
      clear hi1252_1 hl1252_1
      replace p1252 := eq_true p1252
      replace q1252 := eq_true q1252
      go_wp2_with (first | ((with_reducible refine gB_ (N := 9) rfl ?_); refine bx_ 9 #[.slice none 0 0, .slice none 0 0] 25 ?_; intro gb1253 hg w18 hbox hb; replace HO_17 := A_ (Kd.N_below (Kd.N_elderB (by (with_reducible repeat (first | apply Kd.N_alloc | apply Kd.N_drewN | apply Kd.N_drew)); exact HO_17.out) gb1253 (Nat.le_of_eq hg.symm)) hb); replace HL1252_0 := A_ (Kd.V_below (Kd.V_elderB (by (with_reducible repeat (first | apply Kd.V_alloc | apply Kd.V_drewN | apply Kd.V_drew)); exact HL1252_0.out) gb1253 (Nat.le_of_eq hg.symm)) hb); replace HL1252_1 := A_ (Kd.V_below (Kd.V_elderB (by (with_reducible repeat (first | apply Kd.V_alloc | apply Kd.V_drewN | apply Kd.V_drew)); exact HL1252_1.out) gb1253 (Nat.le_of_eq hg.symm)) hb); replace HR1252_0 := A_ (cD_ (by repeat (first | (with_reducible exact HR1252_0.out) | (with_reducible refine cA_ ?_ _) | (with_reducible refine cB_ ?_ _) | (with_reducible refine cC_ ?_) | exact HR1252_0.out)) hb); replace HR1252_1 := A_ (cD_ (by repeat (first | (with_reducible exact HR1252_1.out) | (with_reducible refine cA_ ?_ _) | (with_reducible refine cB_ ?_ _) | (with_reducible refine cC_ ?_) | exact HR1252_1.out)) hb); have BK1253 := A_ hbox; have GW1253 := gw_ w hg; have GE1253 := GW1253; replace HB := b1_ hb; have NB1247_1253 := gN_ BK1247 hg; have NB1253_1247 := gP_ BK1247 hg; replace BK1247 := bb_ BK1247 hb; clear hb hbox hg; have hnb19 := NB1253_1247.out; have hnc19 := NB1247_1253.out; obtain ⟨hcz20_0, hcz20_1, hfz20_0, hfz20_1⟩ := c2_ BK1253) | ((with_reducible refine gA_ (f := 122) rfl ?_); refine gL_ (some 25) Try.func122 #[.agg #[.slice A1252_0 ((rd_T25 t1248 x19_1).f0).length c1252_0, .slice A1252_1 ((rd_T25 t1248 x19_1).f1).length c1252_1], .string a1] rfl qa_ ?_; (with_reducible refine (Z36.calls k1 _ _ ((rd_T25 t1248 x19_1).f0) _ _ ((rd_T25 t1248 x19_1).f1) a1 false _ ?side1 ?side2 ?side3 ?side4 A12.out).mono ?_); (case side1 => repeat (first | exact ((Kd.V_reads' (by (with_reducible repeat (first | apply Kd.V_alloc | apply Kd.V_drewN | apply Kd.V_drew)); exact (Kd.V_mono (Kd.V_far (p := ⟨gb1253, 1, none⟩) (Kd.V_far (p := ⟨gb1253, 0, none⟩) (Kd.V_mono HL1252_0.out (fun k_ hk => (⟨hk, hk.2⟩ : _ ∧ k_ ≠ gb1253))) (fun _ hk => hk.2) (.slice A1252_0 ((rd_T25 t1248 x19_1).f0).length c1252_0)) (fun _ hk => hk.2) (.slice A1252_1 ((rd_T25 t1248 x19_1).f1).length c1252_1)) (fun _ h_ => h_.1)))).2.2) | (with_reducible first | refine cA_ ?_ _ | refine cB_ ?_ _ | refine cC_ ?_))); (case side2 => exact HC1252_0.out); (case side3 => repeat (first | exact ((Kd.V_reads' (by (with_reducible repeat (first | apply Kd.V_alloc | apply Kd.V_drewN | apply Kd.V_drew)); exact (Kd.V_mono (Kd.V_far (p := ⟨gb1253, 1, none⟩) (Kd.V_far (p := ⟨gb1253, 0, none⟩) (Kd.V_mono HL1252_1.out (fun k_ hk => (⟨hk, hk.2⟩ : _ ∧ k_ ≠ gb1253))) (fun _ hk => hk.2) (.slice A1252_0 ((rd_T25 t1248 x19_1).f0).length c1252_0)) (fun _ hk => hk.2) (.slice A1252_1 ((rd_T25 t1248 x19_1).f1).length c1252_1)) (fun _ h_ => h_.1)))).2.2) | (with_reducible first | refine cA_ ?_ _ | refine cB_ ?_ _ | refine cC_ ?_))); (case side4 => exact HC1252_1.out); rintro e w21 ⟨rfl, hb⟩; refine ⟨_, rfl, ?_⟩; replace HO_17 := A_ (Kd.N_below (by (with_reducible repeat (first | apply Kd.N_alloc | apply Kd.N_drewN | apply Kd.N_drew)); exact (Kd.N_mono (Kd.N_far (p := ⟨gb1253, 1, none⟩) (Kd.N_far (p := ⟨gb1253, 0, none⟩) (Kd.N_mono HO_17.out (fun k_ hk => (⟨hk, hk.2⟩ : _ ∧ k_ ≠ gb1253))) (fun _ hk => hk.2) (.slice A1252_0 ((rd_T25 t1248 x19_1).f0).length c1252_0)) (fun _ hk => hk.2) (.slice A1252_1 ((rd_T25 t1248 x19_1).f1).length c1252_1)) (fun _ h_ => h_.1))) hb); replace BK1247 := A_ (kE_ (g := gb1247) (o := .cells #[.slice A0_0 l0_0.length c0_0, .slice A0_1 l0_1.length c0_1] 25 (0, 0)) (by (with_reducible repeat (first | refine kA_ ?_ _ | refine kB_ ?_ | refine kC_ ?_ _)); refine blk_far ?_ NB1247_1253.out _; (with_reducible repeat (first | refine kA_ ?_ _ | refine kB_ ?_ | refine kC_ ?_ _)); refine blk_far ?_ NB1247_1253.out _; (with_reducible repeat (first | refine kA_ ?_ _ | refine kB_ ?_ | refine kC_ ?_ _)); exact BK1247.out) hb); replace HR1252_0 := A_ (cD_ ((Kd.V_reads' (by (with_reducible repeat (first | apply Kd.V_alloc | apply Kd.V_drewN | apply Kd.V_drew)); exact (Kd.V_mono (Kd.V_far (p := ⟨gb1253, 1, none⟩) (Kd.V_far (p := ⟨gb1253, 0, none⟩) (Kd.V_mono HL1252_0.out (fun k_ hk => (⟨hk, hk.2⟩ : _ ∧ k_ ≠ gb1253))) (fun _ hk => hk.2) (.slice A1252_0 ((rd_T25 t1248 x19_1).f0).length c1252_0)) (fun _ hk => hk.2) (.slice A1252_1 ((rd_T25 t1248 x19_1).f1).length c1252_1)) (fun _ h_ => h_.1)))).2.2) hb); replace HL1252_0 := A_ (Kd.V_below (by (with_reducible repeat (first | apply Kd.V_alloc | apply Kd.V_drewN | apply Kd.V_drew)); exact (Kd.V_mono (Kd.V_far (p := ⟨gb1253, 1, none⟩) (Kd.V_far (p := ⟨gb1253, 0, none⟩) (Kd.V_mono HL1252_0.out (fun k_ hk => (⟨hk, hk.2⟩ : _ ∧ k_ ≠ gb1253))) (fun _ hk => hk.2) (.slice A1252_0 ((rd_T25 t1248 x19_1).f0).length c1252_0)) (fun _ hk => hk.2) (.slice A1252_1 ((rd_T25 t1248 x19_1).f1).length c1252_1)) (fun _ h_ => h_.1))) hb); replace HR1252_1 := A_ (cD_ ((Kd.V_reads' (by (with_reducible repeat (first | apply Kd.V_alloc | apply Kd.V_drewN | apply Kd.V_drew)); exact (Kd.V_mono (Kd.V_far (p := ⟨gb1253, 1, none⟩) (Kd.V_far (p := ⟨gb1253, 0, none⟩) (Kd.V_mono HL1252_1.out (fun k_ hk => (⟨hk, hk.2⟩ : _ ∧ k_ ≠ gb1253))) (fun _ hk => hk.2) (.slice A1252_0 ((rd_T25 t1248 x19_1).f0).length c1252_0)) (fun _ hk => hk.2) (.slice A1252_1 ((rd_T25 t1248 x19_1).f1).length c1252_1)) (fun _ h_ => h_.1)))).2.2) hb); replace HL1252_1 := A_ (Kd.V_below (by (with_reducible repeat (first | apply Kd.V_alloc | apply Kd.V_drewN | apply Kd.V_drew)); exact (Kd.V_mono (Kd.V_far (p := ⟨gb1253, 1, none⟩) (Kd.V_far (p := ⟨gb1253, 0, none⟩) (Kd.V_mono HL1252_1.out (fun k_ hk => (⟨hk, hk.2⟩ : _ ∧ k_ ≠ gb1253))) (fun _ hk => hk.2) (.slice A1252_0 ((rd_T25 t1248 x19_1).f0).length c1252_0)) (fun _ hk => hk.2) (.slice A1252_1 ((rd_T25 t1248 x19_1).f1).length c1252_1)) (fun _ h_ => h_.1))) hb); replace BK1253 := A_ (kE_ (g := gb1253) (o := .cells #[.slice A1252_0 ((rd_T25 t1248 x19_1).f0).length c1252_0, .slice A1252_1 ((rd_T25 t1248 x19_1).f1).length c1252_1] 25 (0, 0)) qp_ hb); replace HB := b1_ hb; clear hb))
      go_roundg k1
      case measure => have := HK1.out; omega
      case rel => exact ⟨(x7_1), (wrap64 (x19_1 + 1)), qc_, qc_, H', ⟨by have := HK1.out; omega⟩, ⟨by (with_reducible repeat (first | apply Kd.N_alloc | apply Kd.N_drewN | apply Kd.N_drew)); exact Kd.N_mono HO_17.out (fun _ hk => hk.1)⟩, ⟨(kk_ BK1247)⟩, ⟨hB_⟩⟩
    ·rw [if_neg c9] at H
     have c9b0 := oD_ c9
     clear c9
     obtain rfl := Option.some.inj H
     go_wp2
     go_ret
     exact ⟨qb_, hB_⟩
 ·replace c4 := Bool.eq_false_iff.mpr c4
  subst c4
  have H1 : (some (-1)) = some r := by rw [if_neg (show ¬ (false = true) by decide)] at H; exact H
  clear H
  have H := H1
  clear H1
  obtain rfl := Option.some.inj H
  go_enter Try.func85, Try.ntmps85
  go_wp2_with (first | ((with_reducible refine gB_ (N := 2) rfl ?_); refine bx_ 2 #[.slice A0_0 l0_0.length c0_0, .slice A0_1 l0_1.length c0_1] 25 ?_; intro gb1247 hg w22 hbox hb; have BK1247 := A_ hbox; have GW1247 := gw_ w hg; have GE1247 := GW1247; replace HB := b1_ hb; clear hb hbox hg; obtain ⟨hcz23_0, hcz23_1, hfz23_0, hfz23_1⟩ := c2_ BK1247) | ((with_reducible refine gA_ (f := 39) rfl ?_); refine gL_ (some 12) Try.func39 #[.agg #[.slice A0_0 l0_0.length c0_0, .slice A0_1 l0_1.length c0_1]] rfl qa_ ?_; (with_reducible refine (Z56.calls k _ _ l0_0 _ _ l0_1 t1248 false _ (cb_ HR0_0) HC0_0.out (cb_ HR0_1) HC0_1.out A3.out).mono ?_); rintro e w24 ⟨v1249, rfl, ho0, hb⟩; refine ⟨_, rfl, ?_⟩; have HO1250 := A_ (Kd.N_lower (Kd.N_mono (ok' := fun k_ => k_ ≠ gb1247) ho0 (fun k_ hk_ => (Kd.freshB (kk_ BK1247) k_ hk_))) (bF_ hB_)); replace BK1247 := bb_ BK1247 hb; replace HB := b1_ hb; clear hb ho0))
  go_ret
  exact ⟨qb_, hB_⟩
def Z12.f (k : Nat) (l0_0 : List Int) (l0_1 : List Int) : Option (Int) := (Z53.f k l0_0 l0_1 (⟨#[84, 83]⟩ : ByteArray)).bind fun t1256 => (some t1256)
theorem Z12.mono : ∀ a0 a1 k, LeO (Z12.f k a0 a1) (Z12.f (k + 1) a0 a1) := by
 intro a0 a1 k
 unfold Z12.f
 repeat' first|exact Z53.mono _ _ _ _|exact lo_|refine LeO.ite ?_ ?_|refine LeO.bind ?_ (fun _ => ?_)
set_option maxHeartbeats 8000000 in
set_option maxRecDepth 100000 in
theorem Z12.calls (k : Nat) (A0_0 : Option Addr) (c0_0 : Nat) (l0_0 : List Int) (A0_1 : Option Addr) (c0_1 : Nat) (l0_1 : List Int) (r : Int) (w : World) (hr0_0 : Kd.C (Kd.int .i64) w A0_0 l0_0.length l0_0) (hc0_0 : l0_0.length ≤ c0_0) (hr0_1 : Kd.C (Kd.int .i64) w A0_1 l0_1.length l0_1) (hc0_1 : l0_1.length ≤ c0_1) (h : Z12.f k l0_0 l0_1 = some r) :
  Calls Try.prog 44 #[.agg #[.slice A0_0 l0_0.length c0_0, .slice A0_1 l0_1.length c0_1]] w fun e w' => e = .returned (.int .i64 r) ∧ Below w.heap.size w w' := by
 have hu25 := Try.underlying25
 have HR0_0 := A_ hr0_0
 have HC0_0 := A_ hc0_0
 clear hr0_0 hc0_0
 have HR0_1 := A_ hr0_1
 have HC0_1 := A_ hc0_1
 clear hr0_1 hc0_1
 have HB := A_ (Below.refl w.heap.size w)
 have H := h
 unfold Z12.f at H
 clear h
 obtain ⟨t1256, A2, H⟩ := bi_ H
 obtain rfl := Option.some.inj H
 go_enter Try.func44, Try.ntmps44
 go_wp2_with (first | ((with_reducible refine gB_ (N := 1) rfl ?_); refine bx_ 1 #[.slice A0_0 l0_0.length c0_0, .slice A0_1 l0_1.length c0_1] 25 ?_; intro gb1255 hg w3 hbox hb; have BK1255 := A_ hbox; have GW1255 := gw_ w hg; have GE1255 := GW1255; replace HB := b1_ hb; clear hb hbox hg; obtain ⟨hcz4_0, hcz4_1, hfz4_0, hfz4_1⟩ := c2_ BK1255) | ((with_reducible refine gA_ (f := 85) rfl ?_); refine gL_ (some 4) Try.func85 #[.agg #[.slice A0_0 l0_0.length c0_0, .slice A0_1 l0_1.length c0_1], .string (⟨#[84, 83]⟩ : ByteArray)] rfl qa_ ?_; (with_reducible refine (Z53.calls k _ _ l0_0 _ _ l0_1 (⟨#[84, 83]⟩ : ByteArray) t1256 _ (cb_ HR0_0) HC0_0.out (cb_ HR0_1) HC0_1.out A2.out).mono ?_); rintro e w5 ⟨rfl, hb⟩; refine ⟨_, rfl, ?_⟩; replace BK1255 := bb_ BK1255 hb; replace HB := b1_ hb; clear hb))
 go_ret
 exact ⟨qb_, hB_⟩
end Go.Proofs.Ytcggfjpnfodbaaa.A
end
section
/- A map of two keys, as it is filled: look-ups and stores. No conditions. -/
namespace Go.Proofs.Ytcggfjpnfodbaaa.M
set_option linter.unusedVariables false
set_option linter.unusedSimpArgs false
open Go Go.RowKit Go.Proofs.YtcggfjpnfodbaaaW.PrintWords Go.Proofs.YtcggfjpnfodbaaaW.PrintLast Go.Proofs.YtcggfjpnfodbaaaW.PrintMore Go.Proofs.Ytcggfjpnfodbaaa.A Go.MapKept
def mapO (n : Nat) (vT vS : Value) : Obj := .map ((#[⟨.int .u8 84, vT, 0⟩, ⟨.int .u8 83, vS, 1⟩] : Array MapEntry).extract 0 n) n
def mapV (n c : Nat) (vT vS : Value) : Value := if c = 84 then (if 1 ≤ n then vT else .slice none 0 0) else if 2 ≤ n then vS else .slice none 0 0
theorem key_u8 (c : Int) : IsKey (.int .u8) (.int .u8 c) := rfl
theorem map_look {w : World} {b : Nat} {es : Array MapEntry} {c : Nat} (hb : w.heap[b]? = some (.map es c)) (kk : Int) (r : Option (Nat × Value)) (hf : Instr.findNow (.int .u8) (.int .u8 kk) es.toList 0 = some r) :
  (Instr.lookup 67 (.map (some b)) (.int .u8 kk) false).run Try.prog w = .ok (match r with | some x => x.2 | none => .slice none 0 0) w := by
 have ht := Try.underlying67
 have hk : Try.prog.underlying 5 = some (.int .u8) := Try.underlying5
 have h1 := Go.MapKept.run_findKey (P := Try.prog) (w := w) hk hf
 have hz : (zeroValue 23).run Try.prog w = .ok (.slice none 0 0) w := by kernel_rfl
 cases r with
 | none => simp [Instr.lookup, run_underlying ht, Go.MapKept.run_getObj_map hb, Go.MapKept.run_checkKey hk (key_u8 kk), h1, hz, Result.andThen]
 | some x => simp [Instr.lookup, run_underlying ht, Go.MapKept.run_getObj_map hb, Go.MapKept.run_checkKey hk (key_u8 kk), h1, hz, Result.andThen]
theorem map_push {w : World} {b : Nat} {es : Array MapEntry} {c : Nat} (hb : w.heap[b]? = some (.map es c)) (kk : Int) (hf : Instr.findNow (.int .u8) (.int .u8 kk) es.toList 0 = some none) (v : Value) :
  (Instr.mapUpdate 67 (.map (some b)) (.int .u8 kk) v).run Try.prog w = .ok () { w with heap := w.heap.setIfInBounds b (.map (es.push ⟨.int .u8 kk, v, c⟩) (c + 1)) } := by
 have ht := Try.underlying67
 have hk : Try.prog.underlying 5 = some (.int .u8) := Try.underlying5
 have h1 := Go.MapKept.run_findKey (P := Try.prog) (w := w) hk hf
 simp [Instr.mapUpdate, run_underlying ht, Go.MapKept.run_getObj_map hb, Go.MapKept.run_checkKey hk (key_u8 kk), h1, Go.MapKept.run_setObj_map _ hb, Result.andThen]
theorem map_turn {w : World} {b : Nat} {es : Array MapEntry} {c : Nat} (hb : w.heap[b]? = some (.map es c)) (kk : Int) (i : Nat) (u v : Value) (hf : Instr.findNow (.int .u8) (.int .u8 kk) es.toList 0 = some (some (i, u))) (hi : (es[i]?.map (·.key)) = some (.int .u8 kk)) :
  (Instr.mapUpdate 67 (.map (some b)) (.int .u8 kk) v).run Try.prog w = .ok () { w with heap := w.heap.setIfInBounds b (.map (es.modify i fun e => { e with key := .int .u8 kk, val := v }) c) } := by
 have ht := Try.underlying67
 have hk : Try.prog.underlying 5 = some (.int .u8) := Try.underlying5
 have h1 := Go.MapKept.run_findKey (P := Try.prog) (w := w) hk hf
 have h2 := Go.MapKept.run_keyThatStays (P := Try.prog) (w := w) (key_u8 kk)
 simp [Instr.mapUpdate, run_underlying ht, Go.MapKept.run_getObj_map hb, Go.MapKept.run_checkKey hk (key_u8 kk), h1, hi, h2, Go.MapKept.run_setObj_map _ hb, Result.andThen]
def setMap (w : World) (b n : Nat) (vT vS : Value) : World := { w with heap := w.heap.setIfInBounds b (mapO n vT vS) }
theorem look_T {w : World} {b n : Nat} {vT vS : Value} (hb : w.heap[b]? = some (mapO n vT vS)) (hn : n = 0 ∨ n = 1 ∨ n = 2) : (Instr.lookup 67 (.map (some b)) (.int .u8 84) false).run Try.prog w = .ok (mapV n 84 vT vS) w := by
 rcases hn with rfl | rfl | rfl
 ·exact map_look hb 84 none rfl
 ·exact map_look hb 84 (some (0, vT)) rfl
 ·exact map_look hb 84 (some (0, vT)) rfl
theorem look_S {w : World} {b n : Nat} {vT vS : Value} (hb : w.heap[b]? = some (mapO n vT vS)) (hn : n = 0 ∨ n = 1 ∨ n = 2) : (Instr.lookup 67 (.map (some b)) (.int .u8 83) false).run Try.prog w = .ok (mapV n 83 vT vS) w := by
 rcases hn with rfl | rfl | rfl
 ·exact map_look hb 83 none rfl
 ·exact map_look hb 83 none rfl
 ·exact map_look hb 83 (some (1, vS)) rfl
theorem put_T {w : World} {b n : Nat} {vT vS : Value} (hb : w.heap[b]? = some (mapO n vT vS)) (hn : n = 0 ∨ n = 2) (v : Value) : (Instr.mapUpdate 67 (.map (some b)) (.int .u8 84) v).run Try.prog w = .ok () (setMap w b (max n 1) v vS) := by
 rcases hn with rfl | rfl
 ·exact map_push hb 84 rfl v
 ·exact map_turn hb 84 0 vT v rfl rfl
theorem put_S {w : World} {b n : Nat} {vT vS : Value} (hb : w.heap[b]? = some (mapO n vT vS)) (hn : n = 1 ∨ n = 2) (v : Value) : (Instr.mapUpdate 67 (.map (some b)) (.int .u8 83) v).run Try.prog w = .ok () (setMap w b 2 vT v) := by
 rcases hn with rfl | rfl
 ·exact map_push hb 83 rfl v
 ·exact map_turn hb 83 1 vS v rfl rfl
theorem setMap_at {w : World} {b n : Nat} {o : Obj} (hb : w.heap[b]? = some o) (vT vS : Value) : (setMap w b n vT vS).heap[b]? = some (mapO n vT vS) := by
 have := (Array.getElem?_eq_some_iff.1 hb).1
 simp [setMap, this]
theorem setMap_far {w : World} {b n : Nat} (vT vS : Value) {g : Nat} (h : g ≠ b) : (setMap w b n vT vS).heap[g]? = w.heap[g]? := by
 simp only [setMap, Array.getElem?_setIfInBounds]
 rw [if_neg (fun e => h e.symm)]
theorem setMap_grown {w : World} {b n : Nat} (vT vS : Value) : w.grownBy (setMap w b n vT vS) (some b) :=
 ⟨rfl, rfl, rfl, by simp [setMap], fun i _ hi => setMap_far vT vS (fun e => hi (by rw [e]))⟩
theorem setMap_below {w0 w : World} {b n : Nat} (vT vS : Value) (hB : Below w0.heap.size w0 w) (hb : w0.heap.size ≤ b) : Below w0.heap.size w0 (setMap w b n vT vS) :=
 hB.grown (setMap_grown vT vS) hB.size (fun k e => by injection e with e; omega)
end Go.Proofs.Ytcggfjpnfodbaaa.M
end
section
namespace Go.Proofs.Ytcggfjpnfodbaaa.A
open Go.RowKit Go.Proofs.YtcggfjpnfodbaaaW.PrintWords Go.Proofs.YtcggfjpnfodbaaaW.PrintLast Go.Proofs.YtcggfjpnfodbaaaW.PrintMore
attribute [local go_sem] max2_int min2_int max_two min_two max_three min_three max_four min_four
set_option linter.unusedVariables false
set_option linter.unusedSimpArgs false
def Z4.l0 : Nat → List Int → List Int → Int → Int → Option (Bool)
 | 0, _, _, _, _ => none
 | k + 1, x0, x1, x12, x13 => if x13 < x12 then (if 0 ≤ x13 then (if x13 < (x0.length : Int) then (if x13 < (x1.length : Int) then (if (rd x0 x13) = (rd x1 x13) then (Z4.l0 k x0 x1 x12 (wrap64 (x13 + 1))) else (some false)) else (none)) else (none)) else (none)) else (some true)
def Z4.f (k : Nat) (l0 : List Int) (l1 : List Int) : Option (Bool) := if (l0.length : Int) = (l1.length : Int) then (Z4.l0 k l0 l1 (l0.length : Int) 0) else (some false)
theorem Z4.mono_l : ∀ k, (∀ y0 y1 y2 y3, LeO (Z4.l0 k y0 y1 y2 y3) (Z4.l0 (k + 1) y0 y1 y2 y3))
 | 0 => fun _ _ _ _ r h => by simp [Z4.l0] at h
 | k + 1 => by
  have ih0 := Z4.mono_l k
  ·intro y0 y1 y2 y3
   unfold Z4.l0
   repeat' first|exact ih0 _ _ _ _|exact lo_|refine LeO.ite ?_ ?_|refine LeO.bind ?_ (fun _ => ?_)
theorem Z4.mono : ∀ a0 a1 k, LeO (Z4.f k a0 a1) (Z4.f (k + 1) a0 a1) := by
 intro a0 a1 k
 have ih0 := Z4.mono_l k
 unfold Z4.f
 repeat' first|exact ih0 _ _ _ _|exact lo_|refine LeO.ite ?_ ?_|refine LeO.bind ?_ (fun _ => ?_)
set_option maxHeartbeats 8000000 in
set_option maxRecDepth 100000 in
theorem Z4.calls (k : Nat) (A0 : Option Addr) (c0 : Nat) (l0 : List Int) (A1 : Option Addr) (c1 : Nat) (l1 : List Int) (r : Bool) (w : World) (hr0 : Kd.C (Kd.int .i64) w A0 l0.length l0) (hc0 : l0.length ≤ c0) (hr1 : Kd.C (Kd.int .i64) w A1 l1.length l1) (hc1 : l1.length ≤ c1) (h : Z4.f k l0 l1 = some r) :
  Calls Try.prog 116 #[.slice A0 l0.length c0, .slice A1 l1.length c1] w fun e w' => e = .returned (.bool r) ∧ Drawn0 w w' := by
 have HR0 := A_ hr0
 have HC0 := A_ hc0
 clear hr0 hc0
 have HR1 := A_ hr1
 have HC1 := A_ hc1
 clear hr1 hc1
 have H := h
 unfold Z4.f at H
 clear h
 by_cases c3 : (l0.length : Int) = (l1.length : Int)
 ·rw [if_pos c3] at H
  have c3b0 : ((l0.length : Int) == (l1.length : Int)) = true := beq_iff_eq.mpr c3
  have c3b1 : ((l0.length : Int) != (l1.length : Int)) = false := bne_eq_false_iff_eq.mpr c3
  have c3b2 : (l0.length == l1.length) = true := by first | simpa using c3 | (simp at c3 ⊢; omega)
  clear c3
  have H' := A_ H
  clear H
  go_enter Try.func116, Try.ntmps116
  go_wp2
  repeat (go_quiet (fail); try go_wp2)
  go_loopg [13] k (fun kq v13 w' => ∃ (x13_1 : Int), v13 = .int .i64 x13_1 ∧ Aside0 (Z4.l0 kq l0 l1 (l0.length : Int) x13_1 = some r) ∧ Aside0 (kq ≤ k) ∧ Drawn0 w w')
  case atStart => exact ⟨(0), qc_, H', ⟨nA_ _⟩, by repeat (first | exact Drawn0.refl _ | apply Drawn0.step)⟩
  case round =>
   clear H'
   obtain ⟨x13_1, rfl, HA, HK1, ⟨m1, rfl⟩⟩ := hrel
   cases gk with
   | zero => exact absurd HA.out (by simp [Z4.l0])
   | succ k1 =>
    have H := HA.out
    clear HA
    simp only [Z4.l0] at H
    by_cases c4 : x13_1 < (l0.length : Int)
    ·rw [if_pos c4] at H
     have c4b0 := oC_ c4
     clear c4
     have c5 := cp_ H
     replace H := ca_ H
     have c5b0 := oC_ c5
     clear c5
     have c6 := cp_ H
     replace H := ca_ H
     have c6b0 := oC_ c6
     clear c6
     have c7 := cp_ H
     replace H := ca_ H
     have c7b0 := oC_ c7
     clear c7
     by_cases c8 : (rd l0 x13_1) = (rd l1 x13_1)
     ·rw [if_pos c8] at H
      have c8b0 : ((rd l0 x13_1) == (rd l1 x13_1)) = true := beq_iff_eq.mpr c8
      have c8b1 : ((rd l0 x13_1) != (rd l1 x13_1)) = false := bne_eq_false_iff_eq.mpr c8
      clear c8
      have H' := A_ H
      clear H
      have p420 : 0 ≤ (x13_1 : Int) := oB_ qe_
      have q420 : x13_1 < (l0.length : Int) := oB_ qe_
      obtain ⟨ad420, e420, hx420_0⟩ := Kd.at_int HR0.out x13_1 p420 q420
      cases e420
      replace p420 := eq_true p420
      replace q420 := eq_true q420
      have p421 : 0 ≤ (x13_1 : Int) := oB_ qe_
      have q421 : x13_1 < (l1.length : Int) := oB_ qe_
      obtain ⟨ad421, e421, hx421_0⟩ := Kd.at_int HR1.out x13_1 p421 q421
      cases e421
      replace p421 := eq_true p421
      replace q421 := eq_true q421
      go_wp2
      repeat (go_quiet (fail); try go_wp2)
      go_roundg k1
      case measure => have := HK1.out; omega
      case rel => exact ⟨(wrap64 (x13_1 + 1)), qc_, H', ⟨by have := HK1.out; omega⟩, by repeat (first | exact Drawn0.refl _ | apply Drawn0.step)⟩
     ·rw [if_neg c8] at H
      have c8b0 : ((rd l0 x13_1) == (rd l1 x13_1)) = false := beq_eq_false_iff_ne.mpr c8
      have c8b1 : ((rd l0 x13_1) != (rd l1 x13_1)) = true := bne_iff_ne.mpr c8
      obtain rfl := Option.some.inj H
      have p420 : 0 ≤ (x13_1 : Int) := oB_ qe_
      have q420 : x13_1 < (l0.length : Int) := oB_ qe_
      obtain ⟨ad420, e420, hx420_0⟩ := Kd.at_int HR0.out x13_1 p420 q420
      cases e420
      replace p420 := eq_true p420
      replace q420 := eq_true q420
      have p421 : 0 ≤ (x13_1 : Int) := oB_ qe_
      have q421 : x13_1 < (l1.length : Int) := oB_ qe_
      obtain ⟨ad421, e421, hx421_0⟩ := Kd.at_int HR1.out x13_1 p421 q421
      cases e421
      replace p421 := eq_true p421
      replace q421 := eq_true q421
      go_wp2
      repeat (go_quiet (fail); try go_wp2)
      go_ret
      exact ⟨qc_, by repeat (first | exact Drawn0.refl _ | apply Drawn0.step)⟩
    ·rw [if_neg c4] at H
     have c4b0 := oD_ c4
     clear c4
     obtain rfl := Option.some.inj H
     go_wp2
     repeat (go_quiet (fail); try go_wp2)
     go_ret
     exact ⟨qc_, by repeat (first | exact Drawn0.refl _ | apply Drawn0.step)⟩
 ·rw [if_neg c3] at H
  have c3b0 : ((l0.length : Int) == (l1.length : Int)) = false := beq_eq_false_iff_ne.mpr c3
  have c3b1 : ((l0.length : Int) != (l1.length : Int)) = true := bne_iff_ne.mpr c3
  have c3b2 : (l0.length == l1.length) = false := by first | simpa using c3 | (simp at c3 ⊢; omega)
  obtain rfl := Option.some.inj H
  go_enter Try.func116, Try.ntmps116
  go_wp2
  repeat (go_quiet (fail); try go_wp2)
  go_ret
  exact ⟨qc_, by repeat (first | exact Drawn0.refl _ | apply Drawn0.step)⟩
def Z44.f (k : Nat) (l0 : List Int) (l1 : List Int) : Option (Bool) := (Z4.f k l0 l1).bind fun t422 => (some t422)
theorem Z44.mono : ∀ a0 a1 k, LeO (Z44.f k a0 a1) (Z44.f (k + 1) a0 a1) := by
 intro a0 a1 k
 unfold Z44.f
 repeat' first|exact Z4.mono _ _ _|exact lo_|refine LeO.ite ?_ ?_|refine LeO.bind ?_ (fun _ => ?_)
set_option maxHeartbeats 8000000 in
set_option maxRecDepth 100000 in
theorem Z44.calls (k : Nat) (A0 : Option Addr) (c0 : Nat) (l0 : List Int) (A1 : Option Addr) (c1 : Nat) (l1 : List Int) (r : Bool) (w : World) (hr0 : Kd.C (Kd.int .i64) w A0 l0.length l0) (hc0 : l0.length ≤ c0) (hr1 : Kd.C (Kd.int .i64) w A1 l1.length l1) (hc1 : l1.length ≤ c1) (h : Z44.f k l0 l1 = some r) :
  Calls Try.prog 78 #[.slice A0 l0.length c0, .slice A1 l1.length c1] w fun e w' => e = .returned (.bool r) ∧ Drawn0 w w' := by
 have HR0 := A_ hr0
 have HC0 := A_ hc0
 clear hr0 hc0
 have HR1 := A_ hr1
 have HC1 := A_ hc1
 clear hr1 hc1
 have H := h
 unfold Z44.f at H
 clear h
 obtain ⟨t422, A3, H⟩ := bi_ H
 obtain rfl := Option.some.inj H
 go_enter Try.func78, Try.ntmps78
 go_wp2_with (first | ((with_reducible refine gA_ (f := 116) rfl ?_); refine gL_ (some 7) Try.func116 #[.slice A0 l0.length c0, .slice A1 l1.length c1] rfl qa_ ?_; (with_reducible refine (Z4.calls k _ _ l0 _ _ l1 t422 _ (cc_ HR0) HC0.out (cc_ HR1) HC1.out A3.out).mono ?_); rintro e w' ⟨rfl, ⟨nd, rfl⟩⟩; refine ⟨_, rfl, ?_⟩))
 go_ret
 exact ⟨qc_, by repeat (first | exact Drawn0.refl _ | apply Drawn0.step)⟩
def Z20.f (k : Nat) (l0_0 : List Int) (l0_1 : List Int) (l1_0 : List Int) (l1_1 : List Int) : Option (Bool) := (Z44.f k l0_0 l1_0).bind fun t425 => (if t425 = true then ((Z44.f k l0_1 l1_1).bind fun t426 => (some t426)) else (some false))
theorem Z20.mono : ∀ a0 a1 a2 a3 k, LeO (Z20.f k a0 a1 a2 a3) (Z20.f (k + 1) a0 a1 a2 a3) := by
 intro a0 a1 a2 a3 k
 unfold Z20.f
 repeat' first|exact Z44.mono _ _ _|exact lo_|refine LeO.ite ?_ ?_|refine LeO.bind ?_ (fun _ => ?_)
set_option maxHeartbeats 8000000 in
set_option maxRecDepth 100000 in
theorem Z20.calls (k : Nat) (A0_0 : Option Addr) (c0_0 : Nat) (l0_0 : List Int) (A0_1 : Option Addr) (c0_1 : Nat) (l0_1 : List Int) (A1_0 : Option Addr) (c1_0 : Nat) (l1_0 : List Int) (A1_1 : Option Addr) (c1_1 : Nat) (l1_1 : List Int) (r : Bool) (w : World) (hr0_0 : Kd.C (Kd.int .i64) w A0_0 l0_0.length l0_0) (hc0_0 : l0_0.length ≤ c0_0) (hr0_1 : Kd.C (Kd.int .i64) w A0_1 l0_1.length l0_1) (hc0_1 : l0_1.length ≤ c0_1) (hr1_0 : Kd.C (Kd.int .i64) w A1_0 l1_0.length l1_0) (hc1_0 : l1_0.length ≤ c1_0) (hr1_1 : Kd.C (Kd.int .i64) w A1_1 l1_1.length l1_1) (hc1_1 : l1_1.length ≤ c1_1) (h : Z20.f k l0_0 l0_1 l1_0 l1_1 = some r) :
  Calls Try.prog 29 #[.agg #[.slice A0_0 l0_0.length c0_0, .slice A0_1 l0_1.length c0_1], .agg #[.slice A1_0 l1_0.length c1_0, .slice A1_1 l1_1.length c1_1]] w fun e w' => e = .returned (.bool r) ∧ Below w.heap.size w w' := by
 have hu25 := Try.underlying25
 have HR0_0 := A_ hr0_0
 have HC0_0 := A_ hc0_0
 clear hr0_0 hc0_0
 have HR0_1 := A_ hr0_1
 have HC0_1 := A_ hc0_1
 clear hr0_1 hc0_1
 have HR1_0 := A_ hr1_0
 have HC1_0 := A_ hc1_0
 clear hr1_0 hc1_0
 have HR1_1 := A_ hr1_1
 have HC1_1 := A_ hc1_1
 clear hr1_1 hc1_1
 have HB := A_ (Below.refl w.heap.size w)
 have H := h
 unfold Z20.f at H
 clear h
 obtain ⟨t425, A3, H⟩ := bi_ H
 by_cases c4 : t425 = true
 ·subst c4
  rw [if_pos rfl] at H
  obtain ⟨t426, A5, H⟩ := bi_ H
  obtain rfl := Option.some.inj H
  go_enter Try.func29, Try.ntmps29
  go_wp2_with (first | ((with_reducible refine gB_ (N := 2) rfl ?_); refine bx_ 2 #[.slice A0_0 l0_0.length c0_0, .slice A0_1 l0_1.length c0_1] 25 ?_; intro gb423 hg w6 hbox hb; have BK423 := A_ hbox; have GW423 := gw_ w hg; have GE423 := GW423; replace HB := b1_ hb; clear hb hbox hg) | ((with_reducible refine gB_ (N := 3) rfl ?_); refine bx_ 3 #[.slice A1_0 l1_0.length c1_0, .slice A1_1 l1_1.length c1_1] 25 ?_; intro gb424 hg w7 hbox hb; have BK424 := A_ hbox; have GW424 := gw_ w hg; have GE424 := GW424; replace HB := b1_ hb; have NB423_424 := gN_ BK423 hg; have NB424_423 := gP_ BK423 hg; replace BK423 := bb_ BK423 hb; clear hb hbox hg; have hnb8 := NB423_424.out; have hnc8 := NB424_423.out; obtain ⟨hcz9_0, hcz9_1, hfz9_0, hfz9_1⟩ := c2_ BK423; obtain ⟨hcz10_0, hcz10_1, hfz10_0, hfz10_1⟩ := c2_ BK424) | ((with_reducible refine gA_ (f := 78) rfl ?_); refine gL_ (some 9) Try.func78 #[.slice A0_0 l0_0.length c0_0, .slice A1_0 l1_0.length c1_0] rfl qa_ ?_; (with_reducible refine (Z44.calls k _ _ l0_0 _ _ l1_0 true _ (cb_ HR0_0) HC0_0.out (cb_ HR1_0) HC1_0.out A3.out).mono ?_); rintro e w' ⟨rfl, ⟨nd, rfl⟩⟩; refine ⟨_, rfl, ?_⟩) | (go_at_call 78; (with_reducible refine (Z44.calls k _ _ l0_1 _ _ l1_1 t426 _ (cw_ (cD_ HR0_1.out hB_)) HC0_1.out (cw_ (cD_ HR1_1.out hB_)) HC1_1.out A5.out).mono ?_); rintro e w' ⟨rfl, ⟨nd, rfl⟩⟩))
  go_ret
  exact ⟨qb_, hB_⟩
 ·replace c4 := Bool.eq_false_iff.mpr c4
  subst c4
  have H1 : (some false) = some r := by rw [if_neg (show ¬ (false = true) by decide)] at H; exact H
  clear H
  have H := H1
  clear H1
  obtain rfl := Option.some.inj H
  go_enter Try.func29, Try.ntmps29
  go_wp2_with (first | ((with_reducible refine gB_ (N := 2) rfl ?_); refine bx_ 2 #[.slice A0_0 l0_0.length c0_0, .slice A0_1 l0_1.length c0_1] 25 ?_; intro gb423 hg w11 hbox hb; have BK423 := A_ hbox; have GW423 := gw_ w hg; have GE423 := GW423; replace HB := b1_ hb; clear hb hbox hg) | ((with_reducible refine gB_ (N := 3) rfl ?_); refine bx_ 3 #[.slice A1_0 l1_0.length c1_0, .slice A1_1 l1_1.length c1_1] 25 ?_; intro gb424 hg w12 hbox hb; have BK424 := A_ hbox; have GW424 := gw_ w hg; have GE424 := GW424; replace HB := b1_ hb; have NB423_424 := gN_ BK423 hg; have NB424_423 := gP_ BK423 hg; replace BK423 := bb_ BK423 hb; clear hb hbox hg; have hnb13 := NB423_424.out; have hnc13 := NB424_423.out; obtain ⟨hcz14_0, hcz14_1, hfz14_0, hfz14_1⟩ := c2_ BK423; obtain ⟨hcz15_0, hcz15_1, hfz15_0, hfz15_1⟩ := c2_ BK424) | ((with_reducible refine gA_ (f := 78) rfl ?_); refine gL_ (some 9) Try.func78 #[.slice A0_0 l0_0.length c0_0, .slice A1_0 l1_0.length c1_0] rfl qa_ ?_; (with_reducible refine (Z44.calls k _ _ l0_0 _ _ l1_0 false _ (cb_ HR0_0) HC0_0.out (cb_ HR1_0) HC1_0.out A3.out).mono ?_); rintro e w' ⟨rfl, ⟨nd, rfl⟩⟩; refine ⟨_, rfl, ?_⟩))
  go_ret
  exact ⟨qb_, hB_⟩
end Go.Proofs.Ytcggfjpnfodbaaa.A
end
section
/- The place of a surface in a list: the walk of the program's look-up. No conditions. -/
namespace Go.Proofs.Ytcggfjpnfodbaaa.M
set_option linter.unusedVariables false
set_option linter.unusedSimpArgs false
open Go Go.RowKit Go.Proofs.YtcggfjpnfodbaaaW.PrintWords Go.Proofs.YtcggfjpnfodbaaaW.PrintLast Go.Proofs.YtcggfjpnfodbaaaW.PrintMore Go.Proofs.Ytcggfjpnfodbaaa.A
def idxS (k : Nat) (r u : List Int) : List S25 → Nat → Option Int
 | [], _ => some (-1)
 | x :: xs, i => (Z20.f k x.f0 x.f1 r u).bind fun b => if b = true then some (i : Int) else idxS k r u xs (i + 1)
def indexO (k : Nat) (l : List S25) (r u : List Int) : Option Int := if l.length < 4611686018427387904 then idxS k r u l 0 else none
set_option maxHeartbeats 8000000 in
set_option maxRecDepth 100000 in
theorem index_closure (k : Nat) (gs : Nat) (A0 : Option Addr) (c0 : Nat) (l0 : List Int) (A1 : Option Addr) (c1 : Nat) (l1 : List Int) (B0 : Option Addr) (d0 : Nat) (r : List Int) (B1 : Option Addr) (d1 : Nat) (u : List Int) (b : Bool) (w : World)
  (h0 : Kd.C (Kd.int .i64) w A0 l0.length l0) (g0 : l0.length ≤ c0) (h1 : Kd.C (Kd.int .i64) w A1 l1.length l1) (g1 : l1.length ≤ c1) (h2 : Kd.C (Kd.int .i64) w B0 r.length r) (g2 : r.length ≤ d0) (h3 : Kd.C (Kd.int .i64) w B1 u.length u) (g3 : u.length ≤ d1)
  (hs : w.heap[gs]? = some (.cells #[.slice B0 r.length d0, .slice B1 u.length d1] 25 (0, 0))) (h : Z20.f k l0 l1 r u = some b) :
  Calls Try.prog 109 #[.agg #[.slice A0 l0.length c0, .slice A1 l1.length c1], .pointer (some ⟨gs, 0, none⟩)] w fun e w' => e = .returned (.bool b) ∧ Below w.heap.size w w' := by
 have hu := Try.underlying25
 have H0 := Aside0.mk h0; have H1 := Aside0.mk h1; have H2 := Aside0.mk h2; have H3 := Aside0.mk h3
 have G0 := Aside0.mk g0; have G1 := Aside0.mk g1; have G2 := Aside0.mk g2; have G3 := Aside0.mk g3
 have BS := Aside0.mk hs; have HA := Aside0.mk h
 clear h0 h1 h2 h3 g0 g1 g2 g3 hs h
 have HB := Aside0.mk (Below.refl w.heap.size w)
 go_enter Try.func109, Try.ntmps109
 go_wp2_with (first | ((with_reducible refine gate_dst (N := 2) rfl ?_); refine bx_ 2 #[.slice A0 l0.length c0, .slice A1 l1.length c1] 25 ?_; intro gb hg w2 hbox hb; have BK := Aside0.mk hbox; have BT := bb_ BS hb; replace HB := b1_ hb; clear hb hbox hg; obtain ⟨hcz0, hcz1, hfz0, hfz1⟩ := c2_ BK; obtain ⟨hcy0, hcy1, hfy0, hfy1⟩ := c2_ BT) | ((with_reducible refine gate_callee (f := 29) rfl ?_); refine gL_ (some 6) Try.func29 #[.agg #[.slice A0 l0.length c0, .slice A1 l1.length c1], .agg #[.slice B0 r.length d0, .slice B1 u.length d1]] rfl qa_ ?_; (with_reducible refine (Z20.calls k _ _ l0 _ _ l1 _ _ r _ _ u b _ (cb_ H0) G0.out (cb_ H1) G1.out (cb_ H2) G2.out (cb_ H3) G3.out HA.out).mono ?_); rintro e w3 ⟨rfl, hb⟩; refine ⟨_, rfl, ?_⟩; replace HB := b1_ hb; clear hb))
 go_ret
 exact ⟨qb_, hB_⟩
set_option maxHeartbeats 8000000 in
set_option maxRecDepth 100000 in
theorem index_main (k : Nat) (gf : Nat) (lb : Array Value) (eg : ∀ args w, (callFunc gf args).run Try.prog w = .ok (.enter gf args) w) (A0 : Option Addr) (c0 : Nat) (l0 : List S25) (r u : List Int) (j : Int) (w : World) (hr0 : Kd.C k25 w A0 l0.length l0) (hc0 : l0.length ≤ c0) (h : indexO k l0 r u = some j)
  (hcl : ∀ (A0 : Option Addr) (c0 : Nat) (l0 : List Int) (A1 : Option Addr) (c1 : Nat) (l1 : List Int) (b : Bool) (w1 : World), Below w.heap.size w w1 → Kd.C (Kd.int .i64) w1 A0 l0.length l0 → l0.length ≤ c0 → Kd.C (Kd.int .i64) w1 A1 l1.length l1 → l1.length ≤ c1 → Z20.f k l0 l1 r u = some b → Calls Try.prog gf (#[.agg #[.slice A0 l0.length c0, .slice A1 l1.length c1]] ++ lb) w1 fun e w' => e = .returned (.bool b) ∧ Below w1.heap.size w1 w') :
  Calls Try.prog 108 #[.slice A0 l0.length c0, .func (.func gf) #[] lb] w fun e w' => e = .returned (.int .i64 j) ∧ Below w.heap.size w w' := by
 have hu := Try.underlying25
 have HR0 := Aside0.mk hr0
 have HC0 := Aside0.mk hc0
 have HB := Aside0.mk (Below.refl w.heap.size w)
 have hsm : l0.length < 4611686018427387904 := by
  unfold indexO at h
  split at h
  ·assumption
  ·cases h
 have H' : Aside0 (idxS k r u (l0.drop 0) 0 = some j) := ⟨by
  unfold indexO at h
  rw [if_pos hsm] at h
  exact h⟩
 clear hr0 hc0 h
 replace hcl := Aside0.mk hcl
 go_enter Try.func108, Try.ntmps108
 go_wp2
 go_loopg [5, 8] l0.length (fun gg _ s8 wr => ∃ kk : Nat, s8 = .int .i64 kk ∧ Aside0 (kk ≤ l0.length) ∧ Aside0 (l0.length - kk ≤ gg) ∧ Aside0 (idxS k r u (l0.drop kk) kk = some j) ∧ Aside0 (Below w.heap.size w wr))
 case atStart => exact ⟨0, rfl, ⟨Nat.zero_le _⟩, ⟨by omega⟩, H', ⟨by repeat (first | (with_reducible first | exact HB.out | apply below_alloc | apply pw_below_drewN | apply below_drew1) | exact HB.out)⟩⟩
 case round =>
  clear H' HB
  obtain ⟨kk, rfl, HK, HG, HA, HB⟩ := hrel
  by_cases hlt : kk < l0.length
  ·have hltz : (kk : Int) < (l0.length : Int) := by omega
   have h0z : (0 : Int) ≤ (kk : Int) := Int.natCast_nonneg kk
   have H := HA.out
   have hdr : l0.drop kk = rd_T25 l0 (kk : Int) :: l0.drop (kk + 1) := by
    rw [List.drop_eq_getElem_cons hlt]
    congr 1
    simp [rd_T25, hlt]
   rw [hdr] at H
   simp only [idxS] at H
   obtain ⟨b, Hb, H⟩ := bi_ H
   obtain ⟨ad1, A1, c1, A2, c2, e1, hx1, hx2, hl1, hi1, hl2, hi2⟩ := at_T25 (Kd.C_below HR0.out HB.out) (kk : Int) h0z hltz
   cases e1
   rw [show ((kk : Int)).toNat = kk from rfl] at hx1 hx2
   have HI1 := Aside0.mk hi1
   have HI2 := Aside0.mk hi2
   have HL1 := Aside0.mk hl1
   have HL2 := Aside0.mk hl2
   clear hi1 hi2 hl1 hl2
   cases b with
   | true =>
    rw [if_pos rfl] at H
    obtain rfl := Option.some.inj H
    clear H
    go_wp2_with (fail)
    refine (hcl.out _ _ (rd_T25 l0 (kk : Int)).f0 _ _ (rd_T25 l0 (kk : Int)).f1 true wr HB.out HI1.out HL1.out HI2.out HL2.out Hb.out).mono ?_
    rintro e w2 ⟨rfl, hb⟩
    have HB2 := Aside0.mk (below_step HB.out hb)
    clear hb
    go_wp2
    go_ret
    exact ⟨rfl, by repeat (first | (with_reducible first | exact HB2.out | apply below_alloc | apply pw_below_drewN | apply below_drew1) | exact HB2.out)⟩
   | false =>
    rw [if_neg (by decide)] at H
    have H2 := Aside0.mk H
    clear H
    go_wp2_with (fail)
    refine (hcl.out _ _ (rd_T25 l0 (kk : Int)).f0 _ _ (rd_T25 l0 (kk : Int)).f1 false wr HB.out HI1.out HL1.out HI2.out HL2.out Hb.out).mono ?_
    rintro e w2 ⟨rfl, hb⟩
    have HB2 := Aside0.mk (below_step HB.out hb)
    clear hb
    go_wp2
    go_roundg (l0.length - (kk + 1))
    case measure => have := HG.out; omega
    case rel => exact ⟨kk + 1, by congr 1, ⟨by omega⟩, ⟨by omega⟩, H2, ⟨by repeat (first | (with_reducible first | exact HB2.out | apply below_alloc | apply pw_below_drewN | apply below_drew1) | exact HB2.out)⟩⟩
  ·have hltz : ¬ (kk : Int) < (l0.length : Int) := by omega
   have H := HA.out
   rw [List.drop_eq_nil_of_le (by omega)] at H
   simp only [idxS] at H
   obtain rfl := Option.some.inj H
   clear H
   go_wp2
   go_ret
   exact ⟨rfl, by repeat (first | (with_reducible first | exact HB.out | apply below_alloc | apply pw_below_drewN | apply below_drew1) | exact HB.out)⟩
set_option maxHeartbeats 8000000 in
set_option maxRecDepth 100000 in
theorem index_calls (k : Nat) (gO : Nat) (A0 : Option Addr) (c0 : Nat) (l0 : List S25) (v1 v2 v3 v4 : Value) (B0 : Option Addr) (d0 : Nat) (r : List Int) (B1 : Option Addr) (d1 : Nat) (u : List Int) (j : Int) (w : World) (hr0 : Kd.C k25 w A0 l0.length l0) (hc0 : l0.length ≤ c0) (h2 : Kd.C (Kd.int .i64) w B0 r.length r) (g2 : r.length ≤ d0) (h3 : Kd.C (Kd.int .i64) w B1 u.length u) (g3 : u.length ≤ d1)
  (hO : w.heap[gO]? = some (.cells #[.slice A0 l0.length c0, v1, v2, v3, v4] 69 (0, 0))) (h : indexO k l0 r u = some j) :
  Calls Try.prog 72 #[.pointer (some ⟨gO, 0, none⟩), .agg #[.slice B0 r.length d0, .slice B1 u.length d1]] w fun e w' => e = .returned (.int .i64 j) ∧ Below w.heap.size w w' := by
 have hu := Try.underlying25
 have H0 := Aside0.mk hr0; have H2 := Aside0.mk h2; have H3 := Aside0.mk h3
 have G0 := Aside0.mk hc0; have G2 := Aside0.mk g2; have G3 := Aside0.mk g3
 have BO := Aside0.mk hO; have HA := Aside0.mk h
 clear hr0 h2 h3 hc0 g2 g3 hO h
 have HB := Aside0.mk (Below.refl w.heap.size w)
 go_enter Try.func72, Try.ntmps72
 go_wp2_with (first | ((with_reducible refine gate_dst (N := 3) rfl ?_); refine bx_ 3 #[.slice B0 r.length d0, .slice B1 u.length d1] 25 ?_; intro gb hg w2 hbox hb; have BK := Aside0.mk hbox; have BP := bb_ BO hb; replace HB := b1_ hb; clear hb hbox hg; have hco0 : w2.cell? ⟨gO, 0, none⟩ = some (.slice A0 l0.length c0) := (blk_cell BP.out 0).trans rfl; have hfo0 := blk_frozen BP.out 0) | ((with_reducible refine gate_callee (f := 108) rfl ?_); refine gL_ (some 10) Try.func108 #[.slice A0 l0.length c0, .func (.func 109) #[] #[.pointer (some ⟨gb, 0, none⟩)]] rfl qa_ ?_; refine (index_main k 109 #[.pointer (some ⟨gb, 0, none⟩)] (fun args w => enters_ Try.func109 (by kernel_rfl) rfl args w) _ _ l0 r u j _ (cb_ H0) G0.out HA.out (fun A0_ c0_ l0_ A1_ c1_ l1_ b_ w1_ hw_ q0_ q1_ q2_ q3_ q4_ => index_closure k gb A0_ c0_ l0_ A1_ c1_ l1_ B0 d0 r B1 d1 u b_ w1_ q0_ q1_ q2_ q3_ (Kd.C_below (cb_ H2) hw_) G2.out (Kd.C_below (cb_ H3) hw_) G3.out (blk_below BK.out hw_) q4_)).mono ?_; rintro e w3 ⟨rfl, hb⟩; refine ⟨_, rfl, ?_⟩; replace HB := b1_ hb; clear hb))
 go_ret
 exact ⟨qb_, hB_⟩
end Go.Proofs.Ytcggfjpnfodbaaa.M
end
section
namespace Go.Proofs.Ytcggfjpnfodbaaa.A
open Go.RowKit Go.Proofs.YtcggfjpnfodbaaaW.PrintWords Go.Proofs.YtcggfjpnfodbaaaW.PrintLast Go.Proofs.YtcggfjpnfodbaaaW.PrintMore
attribute [local go_sem] max2_int min2_int max_two min_two max_three min_three max_four min_four
set_option linter.unusedVariables false
set_option linter.unusedSimpArgs false
def Z62.l0 : Nat → List Int → List Bool → Int → Option Bool
 | 0, _, _, _ => none
 | k + 1, l, s, i => if i < (l.length : Int) then (if 0 ≤ i then (if rd l i < 0 then some false else (if rd l i ≥ (l.length : Int) then some false else (if rdOf false s (rd l i) = true then some false else Z62.l0 k l (s.set (rd l i).toNat true) (wrap64 (i + 1))))) else none) else some true
def Z62.f (k : Nat) (l0 : List Int) : Option Bool := if (l0.length : Int) > 24 then some false else Z62.l0 k l0 (List.replicate 24 false) 0
theorem Z62.mono_l : ∀ k, (∀ y0 y1 y2, LeO (Z62.l0 k y0 y1 y2) (Z62.l0 (k + 1) y0 y1 y2))
 | 0 => fun _ _ _ r h => by simp [Z62.l0] at h
 | k + 1 => by
  have ih0 := Z62.mono_l k
  ·intro y0 y1 y2
   unfold Z62.l0
   repeat' first|exact ih0 _ _ _|exact lo_|refine LeO.ite ?_ ?_|refine LeO.bind ?_ (fun _ => ?_)
theorem Z62.mono : ∀ a0 k, LeO (Z62.f k a0) (Z62.f (k + 1) a0) := by
 intro a0 k
 unfold Z62.f
 exact LeO.ite (LeO.refl _) (Z62.mono_l k _ _ _)
def Z24 : Array Value := #[Value.bool false, Value.bool false, Value.bool false, Value.bool false, Value.bool false, Value.bool false, Value.bool false, Value.bool false, Value.bool false, Value.bool false, Value.bool false, Value.bool false, Value.bool false, Value.bool false, Value.bool false, Value.bool false, Value.bool false, Value.bool false, Value.bool false, Value.bool false, Value.bool false, Value.bool false, Value.bool false, Value.bool false]
theorem row_same (w : World) (g : Nat) (t : TypeId) (cur : Array Value) (hg : w.heap[g]? = some (.cells cur t (0, 0))) : w.setRow g cur = w := by
 have hv : ∀ h, w.heap[g]'h = .cells cur t (0, 0) := fun h => (Array.getElem?_eq_some_iff.1 hg).2
 unfold World.setRow
 cases w with
 | mk heap tape drawn os output =>
  congr 1
  apply Array.ext
  ·simp
  ·intro k h1 h2
   simp only [Array.getElem_modify]
   split
   ·rename_i hk; subst hk; simp at hv; simp [hv h2]
   ·rfl
theorem wpList_val {P : Program} {ops : Array Oper} {rest : List Oper} {o : Oper} {a : Act} {Q : Exit → Act → World → Prop} {w : World} (hg : o.guard = none) (v : Value) (w1 : World) (hrun : (execOp a.eval o).run P w = .ok (.value v) w1) (h : wpList P ops Q rest (a.put o.dst v) w1) : wpList P ops Q (o :: rest) a w :=
 wpList_plain hg fun K hK => by unfold Oper.wp; rw [hrun]; exact hK _ _ h
theorem perm_start (w : World) : Kd.R Kd.bool 130 (w.alloc (.cells Z24 130)) w.heap.size (fun _ => True) (.slice (some ⟨w.heap.size, 0, none⟩) 24 24) (List.replicate 24 false) := by
 have h := World.ownsRow_lit (base := w.heap.size) (e := 130) (size := 1) w Z24 24 (nA_ _) (by unfold maxLen; omega) rfl
 exact Kd.R_of_own (xs := List.replicate 24 false) h (fun _ _ => trivial)
set_option maxHeartbeats 8000000 in
set_option maxRecDepth 100000 in
theorem Z62.calls (k : Nat) (A0 : Option Addr) (c0 : Nat) (l0 : List Int) (r : Bool) (w : World) (hr0 : Kd.C (Kd.int .i64) w A0 l0.length l0) (hc0 : l0.length ≤ c0) (h : Z62.f k l0 = some r) :
  Calls Try.prog 107 #[.slice A0 l0.length c0] w fun e w' => e = .returned (.bool r) ∧ Below w.heap.size w w' := by
 have HR0 := A_ hr0
 have HC0 := A_ hc0
 clear hr0 hc0
 have hst := perm_start w
 have HST := A_ hst
 clear hst
 have hb0 : Below w.heap.size w (w.alloc (.cells Z24 130)) := (Below.refl _ _).alloc (nA_ _) _
 have HB0 := A_ hb0
 clear hb0
 unfold Z62.f at h
 by_cases c2 : (l0.length : Int) > 24
 ·rw [if_pos c2] at h
  have c2b0 : decide (24 < (l0.length : Int)) = true := oC_ c2
  have c2b1 : decide (24 < l0.length) = true := oC_ (by omega)
  clear c2
  obtain rfl := Option.some.inj h
  go_enter Try.func107, Try.ntmps107
  go_upto_region 1 with (fail)
  refine wp_region_lit ?_
  refine wpList_val rfl (.agg Z24) w (by as_aux_lemma => kernel_rfl) ?_
  refine wpList_val rfl (.pointer (some ⟨w.heap.size, 0, none⟩)) (w.alloc (.cells Z24 130)) (by as_aux_lemma => kernel_rfl) ?_
  refine wpList_store_row rfl 130 (.tmp 3) (.tmp 6) rfl w.heap.size Z24 rfl rfl 130 Z24 (heap_alloc_new _ _) (by as_aux_lemma => kernel_rfl) rfl (by as_aux_lemma => kernel_rfl) ?_
  rw [row_same _ _ _ _ (heap_alloc_new _ _)]
  generalize w.alloc (.cells Z24 130) = wq at HB0 ⊢
  generalize Value.agg Z24 = ag
  go_wp2
  go_ret
  exact ⟨rfl, HB0.out⟩
 ·rw [if_neg c2] at h
  have hn : l0.length ≤ 24 := by omega
  have HN := A_ hn
  clear hn
  have c2b0 : decide (24 < (l0.length : Int)) = false := oD_ c2
  have c2b1 : decide (24 < l0.length) = false := oD_ (by omega)
  clear c2
  have H' := A_ h
  clear h
  go_enter Try.func107, Try.ntmps107
  go_upto_region 1 with (fail)
  refine wp_region_lit ?_
  refine wpList_val rfl (.agg Z24) w (by as_aux_lemma => kernel_rfl) ?_
  refine wpList_val rfl (.pointer (some ⟨w.heap.size, 0, none⟩)) (w.alloc (.cells Z24 130)) (by as_aux_lemma => kernel_rfl) ?_
  refine wpList_store_row rfl 130 (.tmp 3) (.tmp 6) rfl w.heap.size Z24 rfl rfl 130 Z24 (heap_alloc_new _ _) (by as_aux_lemma => kernel_rfl) rfl (by as_aux_lemma => kernel_rfl) ?_
  rw [row_same _ _ _ _ (heap_alloc_new _ _)]
  generalize w.alloc (.cells Z24 130) = wq at HB0 HST ⊢
  generalize Value.agg Z24 = ag
  go_wp2
  go_loopg [12] k (fun kq v12 w' => ∃ (s : List Bool) (i : Int), v12 = .int .i64 i ∧ Aside0 (Z62.l0 kq l0 s i = some r) ∧ Aside0 (kq ≤ k) ∧ Aside0 (s.length = 24) ∧ Aside0 (Kd.R Kd.bool 130 w' w.heap.size (fun _ => True) (.slice (some ⟨w.heap.size, 0, none⟩) 24 24) s) ∧ Aside0 (Below w.heap.size w w'))
  case atStart => exact ⟨List.replicate 24 false, 0, rfl, H', ⟨nA_ _⟩, ⟨rfl⟩, HST, HB0⟩
  case round =>
   clear H' HST HB0
   obtain ⟨s, i, rfl, HA, HK1, HS, HO, HB⟩ := hrel
   cases gk with
   | zero => exact absurd HA.out (by simp [Z62.l0])
   | succ k1 =>
    have H := HA.out
    clear HA
    simp only [Z62.l0] at H
    by_cases c3 : i < (l0.length : Int)
    ·rw [if_pos c3] at H
     have c4 := cp_ H
     replace H := ca_ H
     have c3b0 := oC_ c3
     have c4b0 := oC_ c4
     obtain ⟨ad, e0, hx⟩ := Kd.at_int HR0.out i c4 c3
     cases e0
     replace hx := (HB.out.cell (World.block_lt_of_cell? w _ hx)).trans hx
     replace c3 := eq_true c3
     replace c4 := eq_true c4
     by_cases c5 : rd l0 i < 0
     ·rw [if_pos c5] at H
      have c5b0 := oC_ c5
      clear c5
      obtain rfl := Option.some.inj H
      go_wp2
      go_ret
      exact ⟨rfl, HB.out⟩
     ·rw [if_neg c5] at H
      have c5b0 := oD_ c5
      by_cases c6 : rd l0 i ≥ (l0.length : Int)
      ·rw [if_pos c6] at H
       have c6b0 : decide ((l0.length : Int) ≤ rd l0 i) = true := oC_ c6
       clear c5 c6
       obtain rfl := Option.some.inj H
       go_wp2
       go_ret
       exact ⟨rfl, HB.out⟩
      ·rw [if_neg c6] at H
       have c6b0 : decide ((l0.length : Int) ≤ rd l0 i) = false := oD_ c6
       have p1 : 0 ≤ rd l0 i := by omega
       have p2 : rd l0 i < ((24 : Nat) : Int) := by have := HN.out; omega
       have p2' : rd l0 i < 24 := p2
       obtain ⟨hy, hz⟩ := Kd.R_celln false HO.out (rd l0 i) p1 p2
       have p1b : decide (0 ≤ rd l0 i) = true := oC_ p1
       have p2b : decide (rd l0 i < 24) = true := oC_ p2'
       clear c5 c6
       by_cases c7 : rdOf false s (rd l0 i) = true
       ·rw [if_pos c7] at H
        rw [c7] at hy
        clear c7
        obtain rfl := Option.some.inj H
        go_wp2
        go_ret
        exact ⟨rfl, HB.out⟩
       ·rw [if_neg c7] at H
        replace c7 := Bool.eq_false_iff.mpr c7
        rw [c7] at hy
        clear c7
        have H' := A_ H
        clear H
        have HP := Kd.R_putg HO.out (rd l0 i) true
        have HP' := A_ HP
        clear HP
        go_wp2
        go_roundg k1
        case measure => have := HK1.out; omega
        case rel => exact ⟨s.set (rd l0 i).toNat true, wrap64 (i + 1), rfl, H', ⟨by have := HK1.out; omega⟩, ⟨by rw [List.length_set]; exact HS.out⟩, ⟨HP'.out.1⟩, ⟨bD_ HB.out (nA_ _)⟩⟩
    ·rw [if_neg c3] at H
     have c3b0 := oD_ c3
     clear c3
     obtain rfl := Option.some.inj H
     go_wp2
     go_ret
     exact ⟨rfl, HB.out⟩
end Go.Proofs.Ytcggfjpnfodbaaa.A
end
