/- Lemmas for the row FnDirections: the program's functions told as plain functions, and plain mathematics. No conditions. -/
import Derived.Test.YtbdnellgioimbaaQFnDirections3
section
namespace Go.Proofs.Ytbdnellgioimbaa.A
open Go.RowKit Go.Proofs.YtbdnellgioimbaaW.PrintWords Go.Proofs.YtbdnellgioimbaaW.PrintLast Go.Proofs.YtbdnellgioimbaaW.PrintMore
attribute [local go_sem] max2_int min2_int max_two min_two max_three min_three max_four min_four
set_option linter.unusedVariables false
set_option linter.unusedSimpArgs false
def laws_FnDirections.f (k : Nat) (l0 : List Int) : Option (Bool) := if (l0.length : Int) > 1048576 then (some true) else ((spec_MakeSurface.f k l0).bind fun bt1579 => ((spec_MakeSlope.f k l0 40).bind fun bt1586 => ((impl_DirectionWord.f k bt1586.1 bt1586.2).bind fun t1588 => ((impl_MatrixOf.f k t1588).bind fun bt1589 => ((impl_RunWord.f k bt1579.1 bt1579.2 t1588).bind fun bt1595 => ((impl_CylindersIn.f k bt1579.1 bt1579.2 bt1586.1 bt1586.2).bind fun bt1603 => ((impl_PathPerm.f k bt1579.1 bt1579.2 bt1586.1 bt1586.2).bind fun bt1607 => ((impl_SlopeOk.f k bt1586.1 bt1586.2).bind fun t1611 => (if t1611 = true then (if bt1589.2.2.2.2 = true then (if bt1595.2.2 = true then (if bt1603.2 = true then (if bt1607.2 = true then (if (wrap64 ((wrap64 (bt1589.1 * bt1586.1)) + (wrap64 (bt1589.2.1 * bt1586.2)))) = 1 then (if (wrap64 ((wrap64 (bt1589.2.2.1 * bt1586.1)) + (wrap64 (bt1589.2.2.2.1 * bt1586.2)))) = 0 then ((impl_AreaOf.f k bt1603.1).bind fun t1612 => (if t1612 = (bt1579.1.length : Int) then ((impl_RowsOf.f k bt1595.1 bt1595.2.1).bind fun t1613 => ((laws_lengths.f k t1613).bind fun t1616 => ((impl_CyclesOf.f k bt1607.1).bind fun t1619 => ((laws_lengths.f k t1619).bind fun t1622 => ((laws_same.f k t1616 t1622).bind fun t1625 => (if t1625 = true then ((impl_IsOneCylinder.f k bt1579.1 bt1579.2 bt1586.1 bt1586.2).bind fun t1626 => (if (t1626 == ((bt1603.1.length : Int) == 1)) = true then (some ((bt1607.1.length : Int) == (bt1579.1.length : Int))) else (some false))) else (some false))))))) else (some false))) else (some false)) else (some false)) else (some false)) else (some false)) else (some false)) else (some false)) else (some false))))))))))
theorem laws_FnDirections.mono : ∀ a0 k, LeO (laws_FnDirections.f k a0) (laws_FnDirections.f (k + 1) a0) := by
  intro a0 k
  unfold laws_FnDirections.f
  repeat' first|exact impl_AreaOf.mono _ _|exact impl_CyclesOf.mono _ _|exact impl_CylindersIn.mono _ _ _ _ _|exact impl_DirectionWord.mono _ _ _|exact impl_IsOneCylinder.mono _ _ _ _ _|exact impl_MatrixOf.mono _ _|exact impl_PathPerm.mono _ _ _ _ _|exact impl_RowsOf.mono _ _ _|exact impl_RunWord.mono _ _ _ _|exact impl_SlopeOk.mono _ _ _|exact laws_lengths.mono _ _|exact laws_same.mono _ _ _|exact spec_MakeSlope.mono _ _ _|exact spec_MakeSurface.mono _ _|exact lo_|refine LeO.ite ?_ ?_|refine LeO.bind ?_ (fun _ => ?_)
def laws_FnDirections.T10 : Bool × List (List Nat × List Nat) := (true, [([], []), ([], []), ([0, 1], [0, 1]), ([2, 2], [2]), ([3], [3]), ([3, 4], [3, 4]), ([5, 3], [5]), ([6], [6]), ([6, 7], [6, 7]), ([8, 6], [8]), ([9], [9]), ([9, 10], [9, 10]), ([11, 9], [11]), ([12], [12]), ([12, 13], [12, 13]), ([14, 12], [14]), ([15], [15]), ([16, 15], [15, 16]), ([15], [15]), ([17, 18, 15], [15, 17, 18]), ([15], [15]), ([20, 15], [15, 20]), ([15], [15]), ([21, 22, 15], [15, 21, 22]), ([19, 23, 15], [15, 19, 23]), ([24, 15], [15, 24]), ([15, 25], [15, 25]), ([26, 15], [26]), ([27], [27]), ([28, 27], [27, 28]), ([27], [27]), ([29, 30, 27], [27, 29, 30]), ([27], [27]), ([32, 27], [27, 32]), ([27], [27]), ([33, 34, 27], [27, 33, 34]), ([31, 35, 27], [27, 31, 35]), ([36, 27], [27, 36]), ([27, 37], [27, 37]), ([38, 27], [38]), ([39], [39]), ([40, 39, 39], [39, 40]), ([39], [39]), ([42, 39], [39, 42]), ([43, 39], [39, 43]), ([41, 44, 39], [39, 41, 44]), ([39, 45], [39, 45]), ([46, 41], [46]), ([47], [47]), ([48, 47, 47], [47, 48]), ([49, 49, 47], [47, 49]), ([47], [47]), ([51, 50, 47], [47, 51]), ([52, 52, 47], [47, 52]), ([50, 53, 53, 47], [47, 50, 53]), ([47, 54], [47, 54]), ([55, 54], [55]), ([56], [56]), ([56], [56]), ([56], [56]), ([57, 58, 59, 56, 56], [56, 57, 58, 59]), ([56], [56]), ([61, 56], [56, 61]), ([62, 56], [56, 62]), ([60, 63, 56], [56, 60, 63]), ([56, 64], [56, 64]), ([65, 60], [65]), ([66], [66]), ([67, 66], [66, 67]), ([66], [66]), ([69, 66], [66, 69]), ([70, 66], [66, 70]), ([68, 71, 66], [66, 68, 71]), ([66, 72], [66, 72]), ([73, 66, 0, 1, 2, 3, 4, 5, 6, 7, 8, 9, 10, 11, 12, 13, 14, 15, 16, 17, 18, 19, 20, 21, 22, 23, 24, 25, 26, 27, 28, 29, 30, 31, 32, 33, 34, 35, 36, 37, 38, 39, 40, 41, 42, 43, 44, 45, 46, 47, 48, 49, 50, 51, 52, 53, 54, 55, 56, 57, 58, 59, 60, 61, 62, 63, 64, 65, 66, 67, 68, 69, 70, 71, 72, 73], [73])])
def laws_FnDirections.B10 : List Nat := [0, 0, 3, 7, 15, 31, 63, 127, 255, 511, 1023, 2047, 4095, 8191, 16383, 32767, 65535, 131071, 65535, 524287, 65535, 1114111, 65535, 7405567, 16777215, 33554431, 67108863, 134217727, 268435455, 536870911, 268435455, 2147483647, 268435455, 4563402751, 268435455, 30333206527, 68719476735, 137438953471, 274877906943, 549755813887, 1099511627775, 2199023255551, 1099511627775, 5497558138879, 14293651161087, 35184372088831, 70368744177663, 140737488355327, 281474976710655, 562949953421311, 1125899906842623, 281474976710655, 4503599627370495, 9007199254740991, 18014398509481983, 36028797018963967, 72057594037927935, 144115188075855871, 144115188075855871, 144115188075855871, 1152921504606846975, 144115188075855871, 2449958197289549823, 7061644215716937727, 18446744073709551615, 36893488147419103231, 73786976294838206463, 147573952589676412927, 295147905179352825855, 147573952589676412927, 737869762948382064639, 1918461383665793368063, 4722366482869645213695, 9444732965739290427391, 18889465931478580854783]
theorem laws_FnDirections.tab10 : rtab .any (opsOf Try.f13 10) = laws_FnDirections.T10 := by kernel_rfl
theorem laws_FnDirections.bits10 : waitsOk laws_FnDirections.T10.2 laws_FnDirections.B10 = true := by kernel_rfl
set_option maxHeartbeats 8000000 in
set_option maxRecDepth 100000 in
theorem laws_FnDirections.calls (k : Nat) (A0 : Option Addr) (c0 : Nat) (l0 : List Int) (r : Bool) (w : World) (hr0 : Kd.C (Kd.int .u8) w A0 l0.length l0) (hc0 : l0.length ≤ c0) (h : laws_FnDirections.f k l0 = some r) (hr1_ : Aside0 (r = true)) :
    Calls Try.prog 13 #[.slice A0 l0.length c0] w fun e w' => e = .returned (.bool r) ∧ Below w.heap.size w w' := by
  have hu27 := Try.underlying27
  have hu64 := Try.underlying64
  have HR0 := Aside0.mk hr0
  have HC0 := Aside0.mk hc0
  clear hr0 hc0
  have HB := Aside0.mk (Below.refl w.heap.size w)
  have H := h
  unfold laws_FnDirections.f at H
  clear h
  by_cases c2 : (l0.length : Int) > 1048576
  · rw [if_pos c2] at H
    have c2b0 : decide (1048576 < (l0.length : Int)) = true := decide_eq_true c2
    have c2b1 : decide (1048576 < l0.length) = true := decide_eq_true (by omega)
    clear c2
    obtain rfl := Option.some.inj H
    go_enter Try.func13, Try.ntmps13
    go_wp2
    go_ret
    exact ⟨qb_, hB_⟩
  · rw [if_neg c2] at H
    have c2b0 : decide (1048576 < (l0.length : Int)) = false := decide_eq_false c2
    have c2b1 : decide (1048576 < l0.length) = false := decide_eq_false (by omega)
    clear c2
    obtain ⟨⟨t1579, t1582⟩, A3, H⟩ := bi_ H
    try dsimp only at H
    obtain ⟨⟨t1586, t1587⟩, A4, H⟩ := bi_ H
    try dsimp only at H
    obtain ⟨t1588, A5, H⟩ := bi_ H
    obtain ⟨⟨t1589, t1590, t1591, t1592, t1593⟩, A6, H⟩ := bi_ H
    try dsimp only at H
    obtain ⟨⟨t1595, t1598, t1601⟩, A7, H⟩ := bi_ H
    try dsimp only at H
    obtain ⟨⟨t1603, t1606⟩, A8, H⟩ := bi_ H
    try dsimp only at H
    obtain ⟨⟨t1607, t1610⟩, A9, H⟩ := bi_ H
    try dsimp only at H
    obtain ⟨t1611, A10, H⟩ := bi_ H
    by_cases c11 : t1611 = true
    · subst c11
      rw [if_pos rfl] at H
      by_cases c12 : t1593 = true
      · subst c12
        rw [if_pos rfl] at H
        by_cases c13 : t1601 = true
        · subst c13
          rw [if_pos rfl] at H
          by_cases c14 : t1606 = true
          · subst c14
            rw [if_pos rfl] at H
            by_cases c15 : t1610 = true
            · subst c15
              rw [if_pos rfl] at H
              by_cases c16 : (wrap64 ((wrap64 (t1589 * t1586)) + (wrap64 (t1590 * t1587)))) = 1
              · rw [if_pos c16] at H
                have c16b0 : ((wrap64 ((wrap64 (t1589 * t1586)) + (wrap64 (t1590 * t1587)))) == 1) = true := beq_iff_eq.mpr c16
                have c16b1 : ((wrap64 ((wrap64 (t1589 * t1586)) + (wrap64 (t1590 * t1587)))) != 1) = false := bne_eq_false_iff_eq.mpr c16
                clear c16
                by_cases c17 : (wrap64 ((wrap64 (t1591 * t1586)) + (wrap64 (t1592 * t1587)))) = 0
                · rw [if_pos c17] at H
                  have c17b0 : ((wrap64 ((wrap64 (t1591 * t1586)) + (wrap64 (t1592 * t1587)))) == 0) = true := beq_iff_eq.mpr c17
                  have c17b1 : ((wrap64 ((wrap64 (t1591 * t1586)) + (wrap64 (t1592 * t1587)))) != 0) = false := bne_eq_false_iff_eq.mpr c17
                  clear c17
                  obtain ⟨t1612, A18, H⟩ := bi_ H
                  by_cases c19 : t1612 = (t1579.length : Int)
                  · rw [if_pos c19] at H
                    have c19b0 : (t1612 == (t1579.length : Int)) = true := beq_iff_eq.mpr c19
                    have c19b1 : (t1612 != (t1579.length : Int)) = false := bne_eq_false_iff_eq.mpr c19
                    clear c19
                    obtain ⟨t1613, A20, H⟩ := bi_ H
                    obtain ⟨t1616, A21, H⟩ := bi_ H
                    obtain ⟨t1619, A22, H⟩ := bi_ H
                    obtain ⟨t1622, A23, H⟩ := bi_ H
                    obtain ⟨t1625, A24, H⟩ := bi_ H
                    by_cases c25 : t1625 = true
                    · subst c25
                      rw [if_pos rfl] at H
                      obtain ⟨t1626, A26, H⟩ := bi_ H
                      by_cases c27 : (t1626 == ((t1603.length : Int) == 1)) = true
                      · rw [if_pos c27] at H
                        have c27b0 : (t1626 == ((t1603.length : Int) == 1)) = true := c27
                        (try (have c27b1 : decide (t1626 = ((t1603.length : Int) == 1)) = true := by simpa using c27))
                        (try (have c27b2 : (t1626 == ((t1603.length : Int) == 1)) = true := by simpa using c27))
                        clear c27
                        obtain rfl := Option.some.inj H
                        go_enter Try.func13, Try.ntmps13
                        try go_wp2_with (first | ((with_reducible refine gate_callee (f := 27) rfl ?_); refine gL_ (some 19) Try.func27 #[.slice A0 l0.length c0] rfl qa_ ?_; (with_reducible refine (spec_MakeSurface.calls k _ _ l0 t1579 t1582 _ (cc_ HR0) HC0.out A3.out).mono ?_); rintro e w28 ⟨v1580, v1583, rfl, ho0, ho1, hb⟩; refine ⟨_, rfl, ?_⟩; have HO1581 := rl_ w ho0; have HO1584 := rl_ w ho1; replace HB := b1_ hb; clear hb ho0 ho1) | ((with_reducible refine gate_dst (N := 3) rfl ?_); (try (refine gate_guard (by rfl) ?_; dsimp only)); refine bx_ 3 #[.slice none 0 0, .slice none 0 0] 27 ?_; intro gb1585 hg w29 hbox hb; replace HO1581 := rb_ HO1581 hb; replace HO1584 := rb_ HO1584 hb; have BK1585 := Aside0.mk hbox; have GW1585 := gw_ w hg; have GE1585 := GW1585; replace HB := b1_ hb; clear hb hbox hg; obtain ⟨Ao30, co30, eo30⟩ := Kd.R_slice HO1581.out; subst eo30; obtain ⟨hcz31_0, hcz31_1, hfz31_0, hfz31_1⟩ := c2_ BK1585; obtain ⟨Ao32, co32, eo32⟩ := Kd.R_slice HO1584.out; subst eo32) | ((with_reducible refine gate_callee (f := 41) rfl ?_); refine gL_ (some 22) Try.func41 #[.slice A0 l0.length c0, .int .i64 40] rfl qa_ ?_; (with_reducible refine (spec_MakeSlope.calls k _ _ l0 40 t1586 t1587 _ (Kd.C_below HR0.out hB_) HC0.out A4.out).mono ?_); rintro e w33 ⟨rfl, hb⟩; refine ⟨_, rfl, ?_⟩; replace HO1581 := Aside0.mk (Kd.R_below (rw_ (fa_ HO1581 BK1585)) hb); replace HO1584 := Aside0.mk (Kd.R_below (rw_ (fa_ HO1584 BK1585)) hb); replace BK1585 := Aside0.mk (blk_below (g := gb1585) (o := .cells #[.slice Ao30 t1579.length co30, .slice Ao32 t1582.length co32] 27 (0, 0)) qp_ hb); replace HB := b1_ hb; clear hb) | ((with_reducible refine gate_callee (f := 49) rfl ?_); refine gL_ (some 27) Try.func49 #[.int .i64 t1586, .int .i64 t1587] rfl qa_ ?_; (with_reducible refine (impl_DirectionWord.calls k t1586 t1587 t1588 _ A5.out).mono ?_); rintro e w' ⟨rfl, ⟨nd, rfl⟩⟩; refine ⟨_, rfl, ?_⟩; (try (rw [drewN_self w33]; generalize hq_ : World.drewN w33 _ = w33; have n0_ : Aside0 (Kd.R (Kd.int .i64) 3 w33 w.heap.size (fun k_ => some k_ ≠ (.slice Ao32 t1582.length co32 : Value).ownBlock) (.slice Ao30 t1579.length co30) t1579) := ⟨by rw [← hq_]; exact (rr_ HO1581)⟩; have n1_ : Aside0 (Kd.R (Kd.int .i64) 3 w33 w.heap.size (fun k_ => some k_ ≠ (.slice Ao30 t1579.length co30 : Value).ownBlock) (.slice Ao32 t1582.length co32) t1582) := ⟨by rw [← hq_]; exact (rr_ HO1584)⟩; have n2_ : Aside0 (w33.heap[gb1585]? = some (.cells #[.slice Ao30 t1579.length co30, .slice Ao32 t1582.length co32] 27 (0, 0))) := ⟨by rw [← hq_]; exact (kk_ BK1585)⟩; have n3_ : Aside0 (Below w.heap.size w w33) := ⟨by rw [← hq_]; exact hB_⟩; clear HO1581 HO1584 BK1585 HB hq_; have HO1581 := n0_; have HO1584 := n1_; have BK1585 := n2_; have HB := n3_; clear n0_ n1_ n2_ n3_))) | ((with_reducible refine gate_callee (f := 50) rfl ?_); refine gL_ (some 30) Try.func50 #[.string t1588] rfl qa_ ?_; (with_reducible refine (impl_MatrixOf.calls k t1588 t1589 t1590 t1591 t1592 true _ A6.out).mono ?_); rintro e w34 ⟨rfl, hb⟩; refine ⟨_, rfl, ?_⟩; replace HO1581 := rb_ HO1581 hb; replace HO1584 := rb_ HO1584 hb; replace BK1585 := bb_ BK1585 hb; replace HB := b1_ hb; clear hb) | ((with_reducible refine gate_dst (N := 7) rfl ?_); (try (refine gate_guard (by rfl) ?_; dsimp only)); refine bx_ 7 #[.int .i64 0, .int .i64 0, .int .i64 0, .int .i64 0] 64 ?_; intro gb1594 hg w35 hbox hb; replace HO1581 := rb_ HO1581 hb; replace HO1584 := rb_ HO1584 hb; have BK1594 := Aside0.mk hbox; have GW1594 := gw_ w hg; have GE1594 := GW1594; replace HB := b1_ hb; have NB1585_1594 := gN_ BK1585 hg; have NB1594_1585 := gP_ BK1585 hg; replace BK1585 := bb_ BK1585 hb; clear hb hbox hg; have hnb36 := NB1594_1585.out; have hnc36 := NB1585_1594.out; have hcz37_0 := cz0_ BK1594; have hcz37_1 := cz1_ BK1594; have hcz37_2 := cz2_ BK1594; have hcz37_3 := cz3_ BK1594; have hfz37_0 := blk_frozen BK1594.out 0; have hfz37_1 := blk_frozen BK1594.out 1; have hfz37_2 := blk_frozen BK1594.out 2; have hfz37_3 := blk_frozen BK1594.out 3; obtain ⟨hcz38_0, hcz38_1, hfz38_0, hfz38_1⟩ := c2_ BK1585) | ((with_reducible refine gate_callee (f := 51) rfl ?_); refine gL_ (some 36) Try.func51 #[.agg #[.slice Ao30 t1579.length co30, .slice Ao32 t1582.length co32], .string t1588] rfl qa_ ?_; (with_reducible refine (impl_RunWord.calls k _ _ t1579 _ _ t1582 t1588 t1595 t1598 true _ ?side1 ?side2 ?side3 ?side4 A7.out).mono ?_); (case side1 => refine (Kd.R_reads' (e := 3) (base := w.heap.size) (ok := fun k_ => some k_ ≠ (.slice Ao32 t1582.length co32 : Value).ownBlock) (n := t1579.length) (c := co30) ?_).2.2; exact (rw_ (Kd.R_mono (Kd.R_far (p := ⟨gb1594, 3, none⟩) (Kd.R_far (p := ⟨gb1594, 2, none⟩) (Kd.R_far (p := ⟨gb1594, 1, none⟩) (Kd.R_far (p := ⟨gb1594, 0, none⟩) (Kd.R_types HO1581.out BK1594.out (by decide)) (fun _ hk => hk.2) (.int .i64 t1589)) (fun _ hk => hk.2) (.int .i64 t1590)) (fun _ hk => hk.2) (.int .i64 t1591)) (fun _ hk => hk.2) (.int .i64 t1592)) (fun _ h_ => h_.1)))); (case side2 => exact (Kd.R_reads' HO1581.out).2.1); (case side3 => refine (Kd.R_reads' (e := 3) (base := w.heap.size) (ok := fun k_ => some k_ ≠ (.slice Ao30 t1579.length co30 : Value).ownBlock) (n := t1582.length) (c := co32) ?_).2.2; exact (rw_ (Kd.R_mono (Kd.R_far (p := ⟨gb1594, 3, none⟩) (Kd.R_far (p := ⟨gb1594, 2, none⟩) (Kd.R_far (p := ⟨gb1594, 1, none⟩) (Kd.R_far (p := ⟨gb1594, 0, none⟩) (Kd.R_types HO1584.out BK1594.out (by decide)) (fun _ hk => hk.2) (.int .i64 t1589)) (fun _ hk => hk.2) (.int .i64 t1590)) (fun _ hk => hk.2) (.int .i64 t1591)) (fun _ hk => hk.2) (.int .i64 t1592)) (fun _ h_ => h_.1)))); (case side4 => exact (Kd.R_reads' HO1584.out).2.1); rintro e w39 ⟨v1596, v1599, rfl, ho0, ho1, hb⟩; refine ⟨_, rfl, ?_⟩; have HO1597 := Aside0.mk (Kd.R_lower (Kd.R_new' (Kd.R_new' ho0 (Kd.R_lt (rw_ (Kd.R_mono (Kd.R_far (p := ⟨gb1594, 3, none⟩) (Kd.R_far (p := ⟨gb1594, 2, none⟩) (Kd.R_far (p := ⟨gb1594, 1, none⟩) (Kd.R_far (p := ⟨gb1594, 0, none⟩) (Kd.R_types HO1581.out BK1594.out (by decide)) (fun _ hk => hk.2) (.int .i64 t1589)) (fun _ hk => hk.2) (.int .i64 t1590)) (fun _ hk => hk.2) (.int .i64 t1591)) (fun _ hk => hk.2) (.int .i64 t1592)) (fun _ h_ => h_.1))))) (Kd.R_lt (rw_ (Kd.R_mono (Kd.R_far (p := ⟨gb1594, 3, none⟩) (Kd.R_far (p := ⟨gb1594, 2, none⟩) (Kd.R_far (p := ⟨gb1594, 1, none⟩) (Kd.R_far (p := ⟨gb1594, 0, none⟩) (Kd.R_types HO1584.out BK1594.out (by decide)) (fun _ hk => hk.2) (.int .i64 t1589)) (fun _ hk => hk.2) (.int .i64 t1590)) (fun _ hk => hk.2) (.int .i64 t1591)) (fun _ hk => hk.2) (.int .i64 t1592)) (fun _ h_ => h_.1))))) (below_size hB_)); have HO1600 := Aside0.mk (Kd.R_lower (Kd.R_new' (Kd.R_new' ho1 (Kd.R_lt (rw_ (Kd.R_mono (Kd.R_far (p := ⟨gb1594, 3, none⟩) (Kd.R_far (p := ⟨gb1594, 2, none⟩) (Kd.R_far (p := ⟨gb1594, 1, none⟩) (Kd.R_far (p := ⟨gb1594, 0, none⟩) (Kd.R_types HO1581.out BK1594.out (by decide)) (fun _ hk => hk.2) (.int .i64 t1589)) (fun _ hk => hk.2) (.int .i64 t1590)) (fun _ hk => hk.2) (.int .i64 t1591)) (fun _ hk => hk.2) (.int .i64 t1592)) (fun _ h_ => h_.1))))) (Kd.R_lt (rw_ (Kd.R_mono (Kd.R_far (p := ⟨gb1594, 3, none⟩) (Kd.R_far (p := ⟨gb1594, 2, none⟩) (Kd.R_far (p := ⟨gb1594, 1, none⟩) (Kd.R_far (p := ⟨gb1594, 0, none⟩) (Kd.R_types HO1584.out BK1594.out (by decide)) (fun _ hk => hk.2) (.int .i64 t1589)) (fun _ hk => hk.2) (.int .i64 t1590)) (fun _ hk => hk.2) (.int .i64 t1591)) (fun _ hk => hk.2) (.int .i64 t1592)) (fun _ h_ => h_.1))))) (below_size hB_)); replace HO1581 := Aside0.mk (Kd.R_mono (Kd.R_told (Kd.R_told (Kd.R_old (rw_ (Kd.R_mono (Kd.R_far (p := ⟨gb1594, 3, none⟩) (Kd.R_far (p := ⟨gb1594, 2, none⟩) (Kd.R_far (p := ⟨gb1594, 1, none⟩) (Kd.R_far (p := ⟨gb1594, 0, none⟩) (Kd.R_types HO1581.out BK1594.out (by decide)) (fun _ hk => hk.2) (.int .i64 t1589)) (fun _ hk => hk.2) (.int .i64 t1590)) (fun _ hk => hk.2) (.int .i64 t1591)) (fun _ hk => hk.2) (.int .i64 t1592)) (fun _ h_ => h_.1))) hb) (Kd.R_base ho0)) (Kd.R_base ho1)) (fun _ h_ => h_.1)); replace HO1584 := Aside0.mk (Kd.R_mono (Kd.R_told (Kd.R_told (Kd.R_old (rw_ (Kd.R_mono (Kd.R_far (p := ⟨gb1594, 3, none⟩) (Kd.R_far (p := ⟨gb1594, 2, none⟩) (Kd.R_far (p := ⟨gb1594, 1, none⟩) (Kd.R_far (p := ⟨gb1594, 0, none⟩) (Kd.R_types HO1584.out BK1594.out (by decide)) (fun _ hk => hk.2) (.int .i64 t1589)) (fun _ hk => hk.2) (.int .i64 t1590)) (fun _ hk => hk.2) (.int .i64 t1591)) (fun _ hk => hk.2) (.int .i64 t1592)) (fun _ h_ => h_.1))) hb) (Kd.R_base ho0)) (Kd.R_base ho1)) (fun _ h_ => h_.1)); replace BK1585 := Aside0.mk (blk_below (g := gb1585) (o := .cells #[.slice Ao30 t1579.length co30, .slice Ao32 t1582.length co32] 27 (0, 0)) (by (with_reducible repeat (first | refine blk_drewN ?_ _ | refine blk_drew ?_ | refine blk_alloc ?_ _)); refine blk_far ?_ NB1585_1594.out _; (with_reducible repeat (first | refine blk_drewN ?_ _ | refine blk_drew ?_ | refine blk_alloc ?_ _)); refine blk_far ?_ NB1585_1594.out _; (with_reducible repeat (first | refine blk_drewN ?_ _ | refine blk_drew ?_ | refine blk_alloc ?_ _)); refine blk_far ?_ NB1585_1594.out _; (with_reducible repeat (first | refine blk_drewN ?_ _ | refine blk_drew ?_ | refine blk_alloc ?_ _)); refine blk_far ?_ NB1585_1594.out _; (with_reducible repeat (first | refine blk_drewN ?_ _ | refine blk_drew ?_ | refine blk_alloc ?_ _)); exact BK1585.out) hb); replace BK1594 := Aside0.mk (blk_below (g := gb1594) (o := .cells #[.int .i64 t1589, .int .i64 t1590, .int .i64 t1591, .int .i64 t1592] 64 (0, 0)) (by (with_reducible repeat (first | refine blk_drewN ?_ _ | refine blk_drew ?_ | refine blk_alloc ?_ _)); refine blk_put (cs := #[.int .i64 t1589, .int .i64 t1590, .int .i64 t1591, .int .i64 0]) ?_ 3 _ rfl; (with_reducible repeat (first | refine blk_drewN ?_ _ | refine blk_drew ?_ | refine blk_alloc ?_ _)); refine blk_put (cs := #[.int .i64 t1589, .int .i64 t1590, .int .i64 0, .int .i64 0]) ?_ 2 _ rfl; (with_reducible repeat (first | refine blk_drewN ?_ _ | refine blk_drew ?_ | refine blk_alloc ?_ _)); refine blk_put (cs := #[.int .i64 t1589, .int .i64 0, .int .i64 0, .int .i64 0]) ?_ 1 _ rfl; (with_reducible repeat (first | refine blk_drewN ?_ _ | refine blk_drew ?_ | refine blk_alloc ?_ _)); refine blk_put (cs := #[.int .i64 0, .int .i64 0, .int .i64 0, .int .i64 0]) ?_ 0 _ rfl; (with_reducible repeat (first | refine blk_drewN ?_ _ | refine blk_drew ?_ | refine blk_alloc ?_ _)); exact BK1594.out) hb); replace HB := b1_ hb; clear hb ho0 ho1) | ((with_reducible refine gate_dst (N := 9) rfl ?_); (try (refine gate_guard (by rfl) ?_; dsimp only)); refine bx_ 9 #[.slice none 0 0, .slice none 0 0] 27 ?_; intro gb1602 hg w40 hbox hb; replace HO1581 := rb_ HO1581 hb; replace HO1584 := rb_ HO1584 hb; replace HO1597 := rb_ HO1597 hb; replace HO1600 := rb_ HO1600 hb; have BK1602 := Aside0.mk hbox; have GW1602 := gw_ w hg; have GE1602 := GW1602; replace HB := b1_ hb; have NB1585_1602 := gN_ BK1585 hg; have NB1602_1585 := gP_ BK1585 hg; replace BK1585 := bb_ BK1585 hb; have NB1594_1602 := gN_ BK1594 hg; have NB1602_1594 := gP_ BK1594 hg; replace BK1594 := bb_ BK1594 hb; clear hb hbox hg; obtain ⟨Ao41, co41, eo41⟩ := Kd.R_slice HO1597.out; subst eo41; have hnb42 := NB1602_1585.out; have hnc42 := NB1585_1602.out; have hnb43 := NB1602_1594.out; have hnc43 := NB1594_1602.out; obtain ⟨hcz44_0, hcz44_1, hfz44_0, hfz44_1⟩ := c2_ BK1602; obtain ⟨Ao45, co45, eo45⟩ := Kd.R_slice HO1600.out; subst eo45; obtain ⟨hcz46_0, hcz46_1, hfz46_0, hfz46_1⟩ := c2_ BK1585) | ((with_reducible refine gate_callee (f := 46) rfl ?_); refine gL_ (some 43) Try.func46 #[.agg #[.slice Ao30 t1579.length co30, .slice Ao32 t1582.length co32], .int .i64 t1586, .int .i64 t1587] rfl qa_ ?_; (with_reducible refine (impl_CylindersIn.calls k _ _ t1579 _ _ t1582 t1586 t1587 t1603 true _ ?side1 ?side2 ?side3 ?side4 A8.out).mono ?_); (case side1 => refine (Kd.R_reads' (e := 3) (base := w.heap.size) (ok := fun k_ => ((some k_ ≠ (.slice Ao32 t1582.length co32 : Value).ownBlock ∧ some k_ ≠ (.slice Ao41 t1595.length co41 : Value).ownBlock) ∧ some k_ ≠ (.slice Ao45 t1598.length co45 : Value).ownBlock)) (n := t1579.length) (c := co30) ?_).2.2; exact (rw_ (fa_ HO1581 BK1602))); (case side2 => exact (Kd.R_reads' HO1581.out).2.1); (case side3 => refine (Kd.R_reads' (e := 3) (base := w.heap.size) (ok := fun k_ => ((some k_ ≠ (.slice Ao30 t1579.length co30 : Value).ownBlock ∧ some k_ ≠ (.slice Ao41 t1595.length co41 : Value).ownBlock) ∧ some k_ ≠ (.slice Ao45 t1598.length co45 : Value).ownBlock)) (n := t1582.length) (c := co32) ?_).2.2; exact (rw_ (fa_ HO1584 BK1602))); (case side4 => exact (Kd.R_reads' HO1584.out).2.1); rintro e w47 ⟨v1604, rfl, ho0, hb⟩; refine ⟨_, rfl, ?_⟩; replace HO1581 := Aside0.mk (Kd.R_below (rw_ (fa_ HO1581 BK1602)) hb); replace HO1584 := Aside0.mk (Kd.R_below (rw_ (fa_ HO1584 BK1602)) hb); replace HO1597 := Aside0.mk (Kd.R_below (rw_ (fa_ HO1597 BK1602)) hb); replace HO1600 := Aside0.mk (Kd.R_below (rw_ (fa_ HO1600 BK1602)) hb); have HO1605 := rl_ w ho0; replace BK1585 := Aside0.mk (blk_below (g := gb1585) (o := .cells #[.slice Ao30 t1579.length co30, .slice Ao32 t1582.length co32] 27 (0, 0)) (by (with_reducible repeat (first | refine blk_drewN ?_ _ | refine blk_drew ?_ | refine blk_alloc ?_ _)); refine blk_far ?_ NB1585_1602.out _; (with_reducible repeat (first | refine blk_drewN ?_ _ | refine blk_drew ?_ | refine blk_alloc ?_ _)); refine blk_far ?_ NB1585_1602.out _; (with_reducible repeat (first | refine blk_drewN ?_ _ | refine blk_drew ?_ | refine blk_alloc ?_ _)); exact BK1585.out) hb); replace BK1594 := Aside0.mk (blk_below (g := gb1594) (o := .cells #[.int .i64 t1589, .int .i64 t1590, .int .i64 t1591, .int .i64 t1592] 64 (0, 0)) (by (with_reducible repeat (first | refine blk_drewN ?_ _ | refine blk_drew ?_ | refine blk_alloc ?_ _)); refine blk_far ?_ NB1594_1602.out _; (with_reducible repeat (first | refine blk_drewN ?_ _ | refine blk_drew ?_ | refine blk_alloc ?_ _)); refine blk_far ?_ NB1594_1602.out _; (with_reducible repeat (first | refine blk_drewN ?_ _ | refine blk_drew ?_ | refine blk_alloc ?_ _)); exact BK1594.out) hb); replace BK1602 := Aside0.mk (blk_below (g := gb1602) (o := .cells #[.slice Ao41 t1595.length co41, .slice Ao45 t1598.length co45] 27 (0, 0)) qp_ hb); replace HB := b1_ hb; clear hb ho0; obtain ⟨hcz48_0, hcz48_1, hfz48_0, hfz48_1⟩ := c2_ BK1585) | ((with_reducible refine gate_callee (f := 52) rfl ?_); refine gL_ (some 50) Try.func52 #[.agg #[.slice Ao30 t1579.length co30, .slice Ao32 t1582.length co32], .int .i64 t1586, .int .i64 t1587] rfl qa_ ?_; (with_reducible refine (impl_PathPerm.calls k _ _ t1579 _ _ t1582 t1586 t1587 t1607 true _ (cr_ HO1581) ((Kd.R_reads' HO1581.out).2.1) (cr_ HO1584) ((Kd.R_reads' HO1584.out).2.1) A9.out).mono ?_); rintro e w49 ⟨v1608, rfl, ho0, hb⟩; refine ⟨_, rfl, ?_⟩; replace HO1605 := rb_ HO1605 hb; have HO1609 := Aside0.mk (Kd.R_lower (Kd.R_new' (Kd.R_new' (Kd.R_new' (Kd.R_new' ho0 (Kd.R_lt (rr_ HO1581))) (Kd.R_lt (rr_ HO1584))) (Kd.R_lt (rr_ HO1597))) (Kd.R_lt (rr_ HO1600))) (below_size hB_)); replace HO1581 := Aside0.mk (Kd.R_elder' (rr_ HO1581) (Kd.R_base ho0) hb); replace HO1584 := Aside0.mk (Kd.R_elder' (rr_ HO1584) (Kd.R_base ho0) hb); replace HO1597 := Aside0.mk (Kd.R_elder' (rr_ HO1597) (Kd.R_base ho0) hb); replace HO1600 := Aside0.mk (Kd.R_elder' (rr_ HO1600) (Kd.R_base ho0) hb); replace BK1585 := bb_ BK1585 hb; replace BK1594 := bb_ BK1594 hb; replace BK1602 := bb_ BK1602 hb; replace HB := b1_ hb; clear hb ho0))
                        replace HO1581 := Aside0.mk (Kd.R_drew HO1581.out)
                        replace HO1584 := Aside0.mk (Kd.R_drew HO1584.out)
                        replace HO1597 := Aside0.mk (Kd.R_drew HO1597.out)
                        replace HO1600 := Aside0.mk (Kd.R_drew HO1600.out)
                        replace HO1605 := Aside0.mk (Kd.R_drew HO1605.out)
                        replace HO1609 := Aside0.mk (Kd.R_drew HO1609.out)
                        replace BK1585 := Aside0.mk (blk_drew BK1585.out)
                        replace BK1594 := Aside0.mk (blk_drew BK1594.out)
                        replace BK1602 := Aside0.mk (blk_drew BK1602.out)
                        replace HB := Aside0.mk (below_drew1 HB.out)
                        refine start_ (n := 75) (S := fun w' => w'.cell? ⟨gb1594, 0, none⟩ = some (.int .i64 t1589) ∧ w'.cell? ⟨gb1594, 1, none⟩ = some (.int .i64 t1590) ∧ w'.cell? ⟨gb1594, 2, none⟩ = some (.int .i64 t1591) ∧ w'.cell? ⟨gb1594, 3, none⟩ = some (.int .i64 t1592) ∧ w'.cell? ⟨gb1585, 0, none⟩ = some (.slice Ao30 t1579.length co30) ∧ w'.cell? ⟨gb1585, 1, none⟩ = some (.slice Ao32 t1582.length co32) ∧ w'.cell? ⟨gb1602, 0, none⟩ = some (.slice Ao41 t1595.length co41) ∧ w'.cell? ⟨gb1602, 1, none⟩ = some (.slice Ao45 t1598.length co45)) (ds := []) (bl_ 75 0) (by kernel_rfl) rfl (by kernel_rfl) ⟨cz0_ BK1594, cz1_ BK1594, cz2_ BK1594, cz3_ BK1594, cz0_ BK1585, cz1_ BK1585, cz0_ BK1602, cz1_ BK1602⟩ (fun hHeld => ?_); refine with_tabW laws_FnDirections.tab10 laws_FnDirections.bits10 (fun HT_ HW_ => ?_)
                        generalize w49.drew = w50 at HO1581 HO1584 HO1597 HO1600 HO1605 HO1609 BK1585 BK1594 BK1602 HB hHeld ⊢
                        refine pu_ 0 (some 53) (bl_ 75 1) HT_ ?_
                        refine pu_ 1 (some 54) (bl_ 75 3) HT_ ?_
                        refine on_ 2 (some 55) (bl_ 75 7) HT_ (fun K hK => ?_)
                        refine gO_ Try.func53 #[.int .i64 t1586, .int .i64 t1587] (by rfl) rfl rfl qa_ ?_
                        with_reducible refine (impl_SlopeOk.calls k t1586 t1587 true _ A10.out).mono ?_
                        rintro e w' ⟨rfl, ⟨nd, rfl⟩⟩
                        refine ⟨_, rfl, ?_⟩
                        obtain ⟨Ao51, co51, eo51⟩ := Kd.R_slice HO1605.out
                        (first | subst eo51 | (injection eo51 with f1_ f2_ f3_; have f4_ := f1_.symm; have f5_ := f3_.symm; clear f1_ f2_ f3_; subst f4_; subst f5_))
                        refine hK.out _ _ ⟨cz0_ BK1594, cz1_ BK1594, cz2_ BK1594, cz3_ BK1594, cz0_ BK1585, cz1_ BK1585, cz0_ BK1602, cz1_ BK1602⟩ (fun hHeld => ?_)
                        clear hK K
                        refine no_ (some 55) ?_
                        refine pu_ 3 (some 56) (bl_ 75 15) HT_ ?_
                        refine pu_ 4 (some 57) (bl_ 75 31) HT_ ?_
                        refine pu_ 5 (some 58) (bl_ 75 63) HT_ ?_
                        refine pu_ 6 (some 59) (bl_ 75 127) HT_ ?_
                        refine pu_ 7 (some 60) (bl_ 75 255) HT_ ?_
                        refine pu_ 8 (some 61) (bl_ 75 511) HT_ ?_
                        refine pu_ 9 (some 62) (bl_ 75 1023) HT_ ?_
                        refine pu_ 10 (some 63) (bl_ 75 2047) HT_ ?_
                        refine pu_ 11 (some 64) (bl_ 75 4095) HT_ ?_
                        refine pu_ 12 (some 65) (bl_ 75 8191) HT_ ?_
                        refine pu_ 13 (some 66) (bl_ 75 16383) HT_ ?_
                        refine pu_ 14 (some 67) (bl_ 75 32767) HT_ ?_
                        refine pu_ 15 (some 68) (bl_ 75 65535) HT_ ?_
                        refine pu_ 16 (some 69) (bl_ 75 131071) HT_ ?_
                        refine pu_ 18 (some 71) (bl_ 75 393215) HT_ ?_
                        refine pu_ 20 (some 73) (bl_ 75 1441791) HT_ ?_
                        refine pu_ 22 (some 75) (bl_ 75 5636095) HT_ ?_
                        refine ta_ 17 (some 70) (bl_ 75 5767167) HT_ HW_ hHeld ?_
                        refine pu_ 19 (some 72) (bl_ 75 6291455) HT_ ?_
                        refine ta_ 21 (some 74) (bl_ 75 8388607) HT_ HW_ hHeld ?_
                        refine pu_ 23 (some 76) (bl_ 75 16777215) HT_ ?_
                        refine pu_ 24 (some 77) (bl_ 75 33554431) HT_ ?_
                        refine pu_ 25 (some 78) (bl_ 75 67108863) HT_ ?_
                        refine pu_ 26 (some 79) (bl_ 75 134217727) HT_ ?_
                        refine pu_ 27 (some 80) (bl_ 75 268435455) HT_ ?_
                        refine pu_ 28 (some 81) (bl_ 75 536870911) HT_ ?_
                        refine pu_ 30 (some 83) (bl_ 75 1610612735) HT_ ?_
                        refine pu_ 32 (some 85) (bl_ 75 5905580031) HT_ ?_
                        refine pu_ 34 (some 87) (bl_ 75 23085449215) HT_ ?_
                        refine ta_ 29 (some 82) (bl_ 75 23622320127) HT_ HW_ hHeld ?_
                        refine pu_ 31 (some 84) (bl_ 75 25769803775) HT_ ?_
                        refine ta_ 33 (some 86) (bl_ 75 34359738367) HT_ HW_ hHeld ?_
                        refine pu_ 35 (some 88) (bl_ 75 68719476735) HT_ ?_
                        refine pu_ 36 (some 89) (bl_ 75 137438953471) HT_ ?_
                        refine pu_ 37 (some 90) (bl_ 75 274877906943) HT_ ?_
                        refine pu_ 38 (some 91) (bl_ 75 549755813887) HT_ ?_
                        refine pu_ 39 (some 92) (bl_ 75 1099511627775) HT_ ?_
                        refine pu_ 40 (some 93) (bl_ 75 2199023255551) HT_ ?_
                        refine pu_ 42 (some 95) (bl_ 75 6597069766655) HT_ ?_
                        refine ta_ 43 (some 96) (bl_ 75 15393162788863) HT_ HW_ hHeld ?_
                        refine pu_ 44 (some 97) (bl_ 75 32985348833279) HT_ ?_
                        refine on_ 41 (some 94) (bl_ 75 35184372088831) HT_ (fun K hK => ?_)
                        refine gO_ Try.func29 #[.slice Ao51 t1603.length co51] (by rfl) rfl rfl qa_ ?_
                        with_reducible refine (impl_AreaOf.calls k _ _ t1603 t1612 _ (cr_ HO1605) ((Kd.R_reads' HO1605.out).2.1) A18.out).mono ?_
                        rintro e w52 ⟨rfl, hb⟩
                        refine ⟨_, rfl, ?_⟩
                        replace HO1581 := rb_ HO1581 hb
                        replace HO1584 := rb_ HO1584 hb
                        replace HO1597 := rb_ HO1597 hb
                        replace HO1600 := rb_ HO1600 hb
                        replace HO1605 := rb_ HO1605 hb
                        replace HO1609 := rb_ HO1609 hb
                        replace BK1585 := bb_ BK1585 hb
                        replace BK1594 := bb_ BK1594 hb
                        replace BK1602 := bb_ BK1602 hb
                        replace HB := b1_ hb
                        clear hb
                        refine hK.out _ _ ⟨cz0_ BK1594, cz1_ BK1594, cz2_ BK1594, cz3_ BK1594, cz0_ BK1585, cz1_ BK1585, cz0_ BK1602, cz1_ BK1602⟩ (fun hHeld => ?_)
                        clear hK K
                        refine no_ (some 94) ?_
                        refine pu_ 45 (some 98) (bl_ 75 70368744177663) HT_ ?_
                        refine pu_ 46 (some 99) (bl_ 75 140737488355327) HT_ ?_
                        refine pu_ 47 (some 100) (bl_ 75 281474976710655) HT_ ?_
                        refine pu_ 51 (some 104) (bl_ 75 2533274790395903) HT_ ?_
                        refine ta_ 48 (some 101) (bl_ 75 2814749767106559) HT_ HW_ hHeld ?_
                        refine on_ 49 (some 102) (bl_ 75 3377699720527871) HT_ (fun K hK => ?_)
                        refine gO_ Try.func28 #[.agg #[.slice Ao41 t1595.length co41, .slice Ao45 t1598.length co45]] (by rfl) rfl rfl qa_ ?_
                        with_reducible refine (impl_RowsOf.calls k _ _ t1595 _ _ t1598 t1613 _ (cr_ HO1597) ((Kd.R_reads' HO1597.out).2.1) (cr_ HO1600) ((Kd.R_reads' HO1600.out).2.1) A20.out).mono ?_
                        rintro e w53 ⟨v1614, rfl, ho0, hb⟩
                        refine ⟨_, rfl, ?_⟩
                        replace HO1605 := rb_ HO1605 hb
                        have HO1615 := Aside0.mk (Kd.S_lower (Kd.S_new' (Kd.S_new' (Kd.S_new' (Kd.S_new' (Kd.S_new' ho0 (Kd.R_lt (rr_ HO1581))) (Kd.R_lt (rr_ HO1584))) (Kd.R_lt (rr_ HO1597))) (Kd.R_lt (rr_ HO1600))) (Kd.R_lt (rr_ HO1609))) (below_size hB_))
                        replace HO1581 := rb_ HO1581 hb
                        replace HO1584 := rb_ HO1584 hb
                        replace HO1597 := rb_ HO1597 hb
                        replace HO1600 := rb_ HO1600 hb
                        replace HO1609 := rb_ HO1609 hb
                        replace BK1585 := bb_ BK1585 hb
                        replace BK1594 := bb_ BK1594 hb
                        replace BK1602 := bb_ BK1602 hb
                        replace HB := b1_ hb
                        clear hb ho0
                        obtain ⟨Ao54, co54, eo54⟩ := Kd.S_slice HO1615.out
                        (first | subst eo54 | (injection eo54 with f1_ f2_ f3_; have f4_ := f1_.symm; have f5_ := f3_.symm; clear f1_ f2_ f3_; subst f4_; subst f5_))
                        refine hK.out _ _ ⟨cz0_ BK1594, cz1_ BK1594, cz2_ BK1594, cz3_ BK1594, cz0_ BK1585, cz1_ BK1585, cz0_ BK1602, cz1_ BK1602⟩ (fun hHeld => ?_)
                        clear hK K
                        refine no_ (some 102) ?_
                        refine on_ 50 (some 103) (bl_ 75 4503599627370495) HT_ (fun K hK => ?_)
                        refine gO_ Try.func55 #[.slice Ao54 t1613.length co54] (by rfl) rfl rfl qa_ ?_
                        with_reducible refine (laws_lengths.calls k _ _ t1613 t1616 _ (cw_ ((Kd.S_reads' HO1615.out).2.2)) ((Kd.S_reads' HO1615.out).2.1) A21.out).mono ?_
                        rintro e w55 ⟨v1617, rfl, ho0, hb⟩
                        refine ⟨_, rfl, ?_⟩
                        replace HO1605 := rb_ HO1605 hb
                        replace HO1615 := Aside0.mk (Kd.S_elder' (ss_ HO1615) (Kd.R_base ho0) hb)
                        have HO1618 := Aside0.mk (Kd.R_lower (Kd.R_new' (Kd.R_new' (Kd.R_new' (Kd.R_new' (Kd.R_new' ho0 (Kd.R_lt (rr_ HO1581))) (Kd.R_lt (rr_ HO1584))) (Kd.R_lt (rr_ HO1597))) (Kd.R_lt (rr_ HO1600))) (Kd.R_lt (rr_ HO1609))) (below_size hB_))
                        replace HO1581 := Aside0.mk (Kd.R_elder' (rr_ HO1581) (Kd.R_base ho0) hb)
                        replace HO1584 := Aside0.mk (Kd.R_elder' (rr_ HO1584) (Kd.R_base ho0) hb)
                        replace HO1597 := Aside0.mk (Kd.R_elder' (rr_ HO1597) (Kd.R_base ho0) hb)
                        replace HO1600 := Aside0.mk (Kd.R_elder' (rr_ HO1600) (Kd.R_base ho0) hb)
                        replace HO1609 := Aside0.mk (Kd.R_elder' (rr_ HO1609) (Kd.R_base ho0) hb)
                        replace BK1585 := bb_ BK1585 hb
                        replace BK1594 := bb_ BK1594 hb
                        replace BK1602 := bb_ BK1602 hb
                        replace HB := b1_ hb
                        clear hb ho0
                        obtain ⟨Ao56, co56, eo56⟩ := Kd.R_slice HO1609.out
                        (first | subst eo56 | (injection eo56 with f1_ f2_ f3_; have f4_ := f1_.symm; have f5_ := f3_.symm; clear f1_ f2_ f3_; subst f4_; subst f5_))
                        refine hK.out _ _ ⟨cz0_ BK1594, cz1_ BK1594, cz2_ BK1594, cz3_ BK1594, cz0_ BK1585, cz1_ BK1585, cz0_ BK1602, cz1_ BK1602⟩ (fun hHeld => ?_)
                        clear hK K
                        refine no_ (some 103) ?_
                        refine on_ 52 (some 105) (bl_ 75 9007199254740991) HT_ (fun K hK => ?_)
                        refine gO_ Try.func56 #[.slice Ao56 t1607.length co56] (by rfl) rfl rfl qa_ ?_
                        with_reducible refine (impl_CyclesOf.calls k _ _ t1607 t1619 _ (cr_ HO1609) ((Kd.R_reads' HO1609.out).2.1) A22.out).mono ?_
                        rintro e w57 ⟨v1620, rfl, ho0, hb⟩
                        refine ⟨_, rfl, ?_⟩
                        replace HO1605 := rb_ HO1605 hb
                        have HO1621 := Aside0.mk (Kd.S_lower (Kd.S_new' (Kd.S_new' (Kd.S_new' (Kd.S_new' (Kd.S_new' (Kd.S_new' (Kd.S_new' ho0 (Kd.R_lt (rr_ HO1581))) (Kd.R_lt (rr_ HO1584))) (Kd.R_lt (rr_ HO1597))) (Kd.R_lt (rr_ HO1600))) (Kd.R_lt (rr_ HO1609))) (Kd.S_lt (ss_ HO1615))) (Kd.R_lt (rr_ HO1618))) (below_size hB_))
                        replace HO1581 := rb_ HO1581 hb
                        replace HO1584 := rb_ HO1584 hb
                        replace HO1597 := rb_ HO1597 hb
                        replace HO1600 := rb_ HO1600 hb
                        replace HO1609 := rb_ HO1609 hb
                        replace HO1615 := Aside0.mk (Kd.S_elder' (ss_ HO1615) (Kd.S_base ho0) hb)
                        replace HO1618 := rb_ HO1618 hb
                        replace BK1585 := bb_ BK1585 hb
                        replace BK1594 := bb_ BK1594 hb
                        replace BK1602 := bb_ BK1602 hb
                        replace HB := b1_ hb
                        clear hb ho0
                        obtain ⟨Ao58, co58, eo58⟩ := Kd.S_slice HO1621.out
                        (first | subst eo58 | (injection eo58 with f1_ f2_ f3_; have f4_ := f1_.symm; have f5_ := f3_.symm; clear f1_ f2_ f3_; subst f4_; subst f5_))
                        refine hK.out _ _ ⟨cz0_ BK1594, cz1_ BK1594, cz2_ BK1594, cz3_ BK1594, cz0_ BK1585, cz1_ BK1585, cz0_ BK1602, cz1_ BK1602⟩ (fun hHeld => ?_)
                        clear hK K
                        refine no_ (some 105) ?_
                        refine on_ 53 (some 106) (bl_ 75 18014398509481983) HT_ (fun K hK => ?_)
                        refine gO_ Try.func55 #[.slice Ao58 t1619.length co58] (by rfl) rfl rfl qa_ ?_
                        with_reducible refine (laws_lengths.calls k _ _ t1619 t1622 _ (cw_ ((Kd.S_reads' HO1621.out).2.2)) ((Kd.S_reads' HO1621.out).2.1) A23.out).mono ?_
                        rintro e w59 ⟨v1623, rfl, ho0, hb⟩
                        refine ⟨_, rfl, ?_⟩
                        replace HO1605 := rb_ HO1605 hb
                        replace HO1615 := Aside0.mk (Kd.S_elder' (ss_ HO1615) (Kd.R_base ho0) hb)
                        replace HO1621 := Aside0.mk (Kd.S_elder' (ss_ HO1621) (Kd.R_base ho0) hb)
                        have HO1624 := Aside0.mk (Kd.R_lower (Kd.R_new' (Kd.R_new' (Kd.R_new' (Kd.R_new' (Kd.R_new' (Kd.R_new' ho0 (Kd.R_lt (rr_ HO1581))) (Kd.R_lt (rr_ HO1584))) (Kd.R_lt (rr_ HO1597))) (Kd.R_lt (rr_ HO1600))) (Kd.R_lt (rr_ HO1609))) (Kd.R_lt (rr_ HO1618))) (below_size hB_))
                        replace HO1581 := Aside0.mk (Kd.R_elder' (rr_ HO1581) (Kd.R_base ho0) hb)
                        replace HO1584 := Aside0.mk (Kd.R_elder' (rr_ HO1584) (Kd.R_base ho0) hb)
                        replace HO1597 := Aside0.mk (Kd.R_elder' (rr_ HO1597) (Kd.R_base ho0) hb)
                        replace HO1600 := Aside0.mk (Kd.R_elder' (rr_ HO1600) (Kd.R_base ho0) hb)
                        replace HO1609 := Aside0.mk (Kd.R_elder' (rr_ HO1609) (Kd.R_base ho0) hb)
                        replace HO1618 := Aside0.mk (Kd.R_elder' (rr_ HO1618) (Kd.R_base ho0) hb)
                        replace BK1585 := bb_ BK1585 hb
                        replace BK1594 := bb_ BK1594 hb
                        replace BK1602 := bb_ BK1602 hb
                        replace HB := b1_ hb
                        clear hb ho0
                        obtain ⟨Ao60, co60, eo60⟩ := Kd.R_slice HO1618.out
                        (first | subst eo60 | (injection eo60 with f1_ f2_ f3_; have f4_ := f1_.symm; have f5_ := f3_.symm; clear f1_ f2_ f3_; subst f4_; subst f5_))
                        obtain ⟨Ao61, co61, eo61⟩ := Kd.R_slice HO1624.out
                        (first | subst eo61 | (injection eo61 with f1_ f2_ f3_; have f4_ := f1_.symm; have f5_ := f3_.symm; clear f1_ f2_ f3_; subst f4_; subst f5_))
                        refine hK.out _ _ ⟨cz0_ BK1594, cz1_ BK1594, cz2_ BK1594, cz3_ BK1594, cz0_ BK1585, cz1_ BK1585, cz0_ BK1602, cz1_ BK1602⟩ (fun hHeld => ?_)
                        clear hK K
                        refine no_ (some 106) ?_
                        refine on_ 54 (some 107) (bl_ 75 36028797018963967) HT_ (fun K hK => ?_)
                        refine gO_ Try.func54 #[.slice Ao60 t1616.length co60, .slice Ao61 t1622.length co61] (by rfl) rfl rfl qa_ ?_
                        with_reducible refine (laws_same.calls k _ _ t1616 _ _ t1622 true _ (cr_ HO1618) ((Kd.R_reads' HO1618.out).2.1) (cr_ HO1624) ((Kd.R_reads' HO1624.out).2.1) A24.out).mono ?_
                        rintro e w' ⟨rfl, ⟨nd, rfl⟩⟩
                        refine ⟨_, rfl, ?_⟩
                        refine hK.out _ _ ⟨cz0_ BK1594, cz1_ BK1594, cz2_ BK1594, cz3_ BK1594, cz0_ BK1585, cz1_ BK1585, cz0_ BK1602, cz1_ BK1602⟩ (fun hHeld => ?_)
                        clear hK K
                        refine no_ (some 107) ?_
                        refine pu_ 55 (some 108) (bl_ 75 72057594037927935) HT_ ?_
                        refine pu_ 56 (some 109) (bl_ 75 144115188075855871) HT_ ?_
                        refine pu_ 58 (some 111) (bl_ 75 432345564227567615) HT_ ?_
                        refine pu_ 59 (some 112) (bl_ 75 1008806316530991103) HT_ ?_
                        refine pu_ 61 (some 114) (bl_ 75 3314649325744685055) HT_ ?_
                        refine pu_ 62 (some 115) (bl_ 75 7926335344172072959) HT_ ?_
                        refine pu_ 63 (some 116) (bl_ 75 17149707381026848767) HT_ ?_
                        refine ta_ 57 (some 110) (bl_ 75 17293822569102704639) HT_ HW_ hHeld ?_
                        refine on_ 60 (some 113) (bl_ 75 18446744073709551615) HT_ (fun K hK => ?_)
                        refine gO_ Try.func48 #[.agg #[.slice Ao30 t1579.length co30, .slice Ao32 t1582.length co32], .int .i64 t1586, .int .i64 t1587] (by rfl) rfl rfl qa_ ?_
                        with_reducible refine (impl_IsOneCylinder.calls k _ _ t1579 _ _ t1582 t1586 t1587 t1626 _ (cr_ HO1581) ((Kd.R_reads' HO1581.out).2.1) (cr_ HO1584) ((Kd.R_reads' HO1584.out).2.1) A26.out).mono ?_
                        rintro e w62 ⟨rfl, hb⟩
                        refine ⟨_, rfl, ?_⟩
                        replace HO1581 := rb_ HO1581 hb
                        replace HO1584 := rb_ HO1584 hb
                        replace HO1597 := rb_ HO1597 hb
                        replace HO1600 := rb_ HO1600 hb
                        replace HO1605 := rb_ HO1605 hb
                        replace HO1609 := rb_ HO1609 hb
                        replace HO1615 := sb_ HO1615 hb
                        replace HO1618 := rb_ HO1618 hb
                        replace HO1621 := sb_ HO1621 hb
                        replace HO1624 := rb_ HO1624 hb
                        replace BK1585 := bb_ BK1585 hb
                        replace BK1594 := bb_ BK1594 hb
                        replace BK1602 := bb_ BK1602 hb
                        replace HB := b1_ hb
                        clear hb
                        refine hK.out _ _ ⟨cz0_ BK1594, cz1_ BK1594, cz2_ BK1594, cz3_ BK1594, cz0_ BK1585, cz1_ BK1585, cz0_ BK1602, cz1_ BK1602⟩ (fun hHeld => ?_)
                        clear hK K
                        refine no_ (some 113) ?_
                        refine pu_ 64 (some 117) (bl_ 75 36893488147419103231) HT_ ?_
                        refine pu_ 65 (some 118) (bl_ 75 73786976294838206463) HT_ ?_
                        refine pu_ 66 (some 119) (bl_ 75 147573952589676412927) HT_ ?_
                        refine pu_ 67 (some 120) (bl_ 75 295147905179352825855) HT_ ?_
                        refine pu_ 68 (some 121) (bl_ 75 590295810358705651711) HT_ ?_
                        refine pu_ 69 (some 122) (bl_ 75 1180591620717411303423) HT_ ?_
                        refine ta_ 70 (some 123) (bl_ 75 2361183241434822606847) HT_ HW_ hHeld ?_
                        refine pu_ 71 (some 124) (bl_ 75 4722366482869645213695) HT_ ?_
                        refine pu_ 72 (some 125) (bl_ 75 9444732965739290427391) HT_ ?_
                        refine pu_ 73 (some 126) (bl_ 75 18889465931478580854783) HT_ ?_
                        refine pu_ 74 (some 2) (bl_ 75 37778931862957161709567) HT_ ?_
                        refine done_ (done_of HT_.out (by kernel_rfl)) ?_
                        try go_wp2
                        go_ret
                        exact ⟨qb_, hB_⟩
                      · rw [if_neg c27] at H
                        have c27b0 : (t1626 == ((t1603.length : Int) == 1)) = false := by simpa using c27
                        (try (have c27b1 : decide (t1626 = ((t1603.length : Int) == 1)) = false := by simpa using c27))
                        (try (have c27b2 : (t1626 == ((t1603.length : Int) == 1)) = false := by simpa using c27))
                        (try (have c27b3 : ¬ (t1626 = ((t1603.length : Int) == 1)) := by simpa using c27))
                        clear c27
                        exact absurd (Option.some.inj H) (by rw [hr1_.out]; decide)
                    · replace c25 := Bool.eq_false_iff.mpr c25
                      subst c25
                      have H1 : (some false) = some r := by rw [if_neg (show ¬ (false = true) by decide)] at H; exact H
                      clear H
                      have H := H1
                      clear H1
                      exact absurd (Option.some.inj H) (by rw [hr1_.out]; decide)
                  · rw [if_neg c19] at H
                    have c19b0 : (t1612 == (t1579.length : Int)) = false := beq_eq_false_iff_ne.mpr c19
                    have c19b1 : (t1612 != (t1579.length : Int)) = true := bne_iff_ne.mpr c19
                    exact absurd (Option.some.inj H) (by rw [hr1_.out]; decide)
                · rw [if_neg c17] at H
                  have c17b0 : ((wrap64 ((wrap64 (t1591 * t1586)) + (wrap64 (t1592 * t1587)))) == 0) = false := beq_eq_false_iff_ne.mpr c17
                  have c17b1 : ((wrap64 ((wrap64 (t1591 * t1586)) + (wrap64 (t1592 * t1587)))) != 0) = true := bne_iff_ne.mpr c17
                  exact absurd (Option.some.inj H) (by rw [hr1_.out]; decide)
              · rw [if_neg c16] at H
                have c16b0 : ((wrap64 ((wrap64 (t1589 * t1586)) + (wrap64 (t1590 * t1587)))) == 1) = false := beq_eq_false_iff_ne.mpr c16
                have c16b1 : ((wrap64 ((wrap64 (t1589 * t1586)) + (wrap64 (t1590 * t1587)))) != 1) = true := bne_iff_ne.mpr c16
                exact absurd (Option.some.inj H) (by rw [hr1_.out]; decide)
            · replace c15 := Bool.eq_false_iff.mpr c15
              subst c15
              have H1 : (some false) = some r := by rw [if_neg (show ¬ (false = true) by decide)] at H; exact H
              clear H
              have H := H1
              clear H1
              exact absurd (Option.some.inj H) (by rw [hr1_.out]; decide)
          · replace c14 := Bool.eq_false_iff.mpr c14
            subst c14
            have H1 : (some false) = some r := by rw [if_neg (show ¬ (false = true) by decide)] at H; exact H
            clear H
            have H := H1
            clear H1
            exact absurd (Option.some.inj H) (by rw [hr1_.out]; decide)
        · replace c13 := Bool.eq_false_iff.mpr c13
          subst c13
          have H1 : (some false) = some r := by rw [if_neg (show ¬ (false = true) by decide)] at H; exact H
          clear H
          have H := H1
          clear H1
          exact absurd (Option.some.inj H) (by rw [hr1_.out]; decide)
      · replace c12 := Bool.eq_false_iff.mpr c12
        subst c12
        have H1 : (some false) = some r := by rw [if_neg (show ¬ (false = true) by decide)] at H; exact H
        clear H
        have H := H1
        clear H1
        exact absurd (Option.some.inj H) (by rw [hr1_.out]; decide)
    · replace c11 := Bool.eq_false_iff.mpr c11
      subst c11
      have H1 : (some false) = some r := by rw [if_neg (show ¬ (false = true) by decide)] at H; exact H
      clear H
      have H := H1
      clear H1
      exact absurd (Option.some.inj H) (by rw [hr1_.out]; decide)
end Go.Proofs.Ytbdnellgioimbaa.A
end
section
/- Plain mathematics: permutations as lists of numbers. No conditions. -/
namespace Go.Proofs.Ytbdnellgioimbaa.M
set_option linter.unusedVariables false
set_option linter.unusedSimpArgs false
def I (l : List Nat) : List Int := l.map Int.ofNat
def g (p : List Nat) (i : Nat) : Nat := p.getD i 0
def tab (n : Nat) (f : Nat → Nat) : List Nat := (List.range n).map f
theorem I_len (l : List Nat) : (I l).length = l.length := by simp [I]
theorem I_inj {a b : List Nat} (h : I a = I b) : a = b := by
  unfold I at h
  exact (List.map_inj_right (fun x y hxy => Int.ofNat.inj hxy)).mp h
theorem tab_len (n : Nat) (f : Nat → Nat) : (tab n f).length = n := by simp [tab]
theorem g_tab {n : Nat} {f : Nat → Nat} {i : Nat} (h : i < n) : g (tab n f) i = f i := by simp [g, tab, List.getD_eq_getElem?_getD, h]
theorem g_get {p : List Nat} {i : Nat} (h : i < p.length) : g p i = p[i] := by simp [g, List.getD_eq_getElem?_getD, h]
theorem g_mem {p : List Nat} {i : Nat} (h : i < p.length) : g p i ∈ p := by rw [g_get h]; exact List.getElem_mem h
theorem mem_g {p : List Nat} {x : Nat} (h : x ∈ p) : ∃ i, i < p.length ∧ g p i = x := by
  obtain ⟨i, hi, rfl⟩ := List.mem_iff_getElem.mp h
  exact ⟨i, hi, g_get hi⟩
theorem ext_g {a b : List Nat} (hl : a.length = b.length) (h : ∀ i, i < a.length → g a i = g b i) : a = b := by
  apply List.ext_getElem hl
  intro i h1 h2
  rw [← g_get h1, ← g_get h2]
  exact h i h1
theorem tab_ext {n : Nat} {f f' : Nat → Nat} (h : ∀ i, i < n → f i = f' i) : tab n f = tab n f' :=
  ext_g (by simp [tab_len]) (fun i hi => by rw [tab_len] at hi; rw [g_tab hi, g_tab hi, h i hi])
theorem eq_tab {l : List Nat} {n : Nat} {f : Nat → Nat} (hl : l.length = n) (h : ∀ i, i < n → g l i = f i) : l = tab n f :=
  ext_g (by rw [tab_len, hl]) (fun i hi => by rw [hl] at hi; rw [g_tab hi, h i hi])
theorem g_set {p : List Nat} {i x j : Nat} (h : i < p.length) : g (p.set i x) j = if i = j then x else g p j := by
  unfold g
  rw [List.getD_eq_getElem?_getD, List.getD_eq_getElem?_getD, List.getElem?_set]
  by_cases e : i = j
  · subst e
    simp [h]
  · simp [e]
theorem I_set (p : List Nat) (i x : Nat) : (I p).set i (x : Int) = I (p.set i x) := by simp [I, List.map_set]
theorem I_app (p q : List Nat) : I p ++ I q = I (p ++ q) := by simp [I]
theorem I_one (x : Nat) : I [x] = [(x : Int)] := rfl
theorem I_snoc (p : List Nat) (x : Nat) : I p ++ [(x : Int)] = I (p ++ [x]) := by simp [I]
theorem I_nil : I [] = [] := rfl
theorem I_rep (n x : Nat) : I (List.replicate n x) = List.replicate n (x : Int) := by simp [I]
structure IsP (p : List Nat) : Prop where
  lt : ∀ x ∈ p, x < p.length
  nd : p.Nodup
instance (p : List Nat) : Decidable (IsP p) := decidable_of_iff ((∀ x ∈ p, x < p.length) ∧ p.Nodup) ⟨fun h => ⟨h.1, h.2⟩, fun h => ⟨h.lt, h.nd⟩⟩
theorem nodup_le (n : Nat) : ∀ l : List Nat, l.Nodup → (∀ x ∈ l, x < n) → l.length ≤ n := by
  induction n with
  | zero =>
    intro l _ h
    cases l with
    | nil => simp
    | cons a l => exact absurd (h a (by simp)) (by omega)
  | succ n ih =>
    intro l hn h
    have h1 := ih (l.erase n) (hn.erase n) (fun x hx => by
      have h2 := (List.Nodup.mem_erase_iff hn).mp hx
      have h3 := h x h2.2
      have h4 := h2.1
      omega)
    have h5 := @List.length_erase _ _ _ n l
    split at h5 <;> omega
theorem mem_all {p : List Nat} (hp : IsP p) {x : Nat} (h : x < p.length) : x ∈ p := by
  apply Classical.byContradiction
  intro hx
  have := nodup_le p.length (x :: p) (List.nodup_cons.mpr ⟨hx, hp.nd⟩) (fun y hy => by
    rcases List.mem_cons.mp hy with rfl | hy
    · exact h
    · exact hp.lt y hy)
  simp at this
  omega
theorem g_lt {p : List Nat} (hp : IsP p) {i : Nat} (h : i < p.length) : g p i < p.length := hp.lt _ (g_mem h)
theorem g_inj {p : List Nat} (hp : IsP p) {i j : Nat} (hi : i < p.length) (hj : j < p.length) (h : g p i = g p j) : i = j := by
  rw [g_get hi, g_get hj] at h
  have hw := List.pairwise_iff_getElem.mp hp.nd
  rcases Nat.lt_trichotomy i j with hij | hij | hij
  · exact absurd h (hw i j hi hj hij)
  · exact hij
  · exact absurd h.symm (hw j i hj hi hij)
def ix (p : List Nat) (x : Nat) : Nat := p.idxOf x
theorem ix_lt {p : List Nat} (hp : IsP p) {x : Nat} (h : x < p.length) : ix p x < p.length := List.idxOf_lt_length_of_mem (mem_all hp h)
theorem g_ix {p : List Nat} (hp : IsP p) {x : Nat} (h : x < p.length) : g p (ix p x) = x := by
  rw [g_get (ix_lt hp h)]
  exact List.getElem_idxOf (ix_lt hp h)
theorem ix_g {p : List Nat} (hp : IsP p) {i : Nat} (h : i < p.length) : ix p (g p i) = i :=
  g_inj hp (ix_lt hp (g_lt hp h)) h (g_ix hp (g_lt hp h))
theorem ix_eq {p : List Nat} (hp : IsP p) {i x : Nat} (h : i < p.length) (e : g p i = x) : ix p x = i := by rw [← e]; exact ix_g hp h
theorem isP_mk {p : List Nat} (h1 : ∀ i, i < p.length → g p i < p.length) (h2 : ∀ i j, i < p.length → j < p.length → g p i = g p j → i = j) : IsP p := by
  refine ⟨fun x hx => ?_, ?_⟩
  · obtain ⟨i, hi, rfl⟩ := mem_g hx
    exact h1 i hi
  · refine List.pairwise_iff_getElem.mpr ?_
    intro i j hi hj hij e'
    rw [← g_get hi, ← g_get hj] at e'
    have := h2 i j hi hj e'
    omega
theorem isP_tab {n : Nat} {f : Nat → Nat} (h1 : ∀ i, i < n → f i < n) (h2 : ∀ i j, i < n → j < n → f i = f j → i = j) : IsP (tab n f) := by
  refine isP_mk (fun i hi => ?_) (fun i j hi hj e => ?_)
  · rw [tab_len] at hi ⊢; rw [g_tab hi]; exact h1 i hi
  · rw [tab_len] at hi hj; rw [g_tab hi, g_tab hj] at e; exact h2 i j hi hj e
def inv (p : List Nat) : List Nat := tab p.length (ix p)
theorem inv_len (p : List Nat) : (inv p).length = p.length := tab_len _ _
theorem g_inv {p : List Nat} {i : Nat} (h : i < p.length) : g (inv p) i = ix p i := g_tab h
theorem isP_inv {p : List Nat} (hp : IsP p) : IsP (inv p) := isP_tab (fun i hi => ix_lt hp hi) (fun i j hi hj e => by rw [← g_ix hp hi, ← g_ix hp hj, e])
def thn (p q : List Nat) : List Nat := tab p.length (fun i => g q (g p i))
theorem thn_len (p q : List Nat) : (thn p q).length = p.length := tab_len _ _
theorem g_thn {p q : List Nat} {i : Nat} (h : i < p.length) : g (thn p q) i = g q (g p i) := g_tab h
theorem isP_thn {p q : List Nat} (hp : IsP p) (hq : IsP q) (hl : p.length = q.length) : IsP (thn p q) :=
  isP_tab (fun i hi => by have h1 := g_lt hp hi; have h2 := g_lt hq (i := g p i) (by omega); omega)
    (fun i j hi hj e => g_inj hp hi hj (g_inj hq (by have := g_lt hp hi; omega) (by have := g_lt hp hj; omega) e))
end Go.Proofs.Ytbdnellgioimbaa.M
end
section
/- Plain mathematics: permutations of whole numbers, and what is reached by two of them. No conditions. -/
namespace Go.Proofs.Ytbdnellgioimbaa.M
set_option linter.unusedVariables false
set_option linter.unusedSimpArgs false
open Go.RowKit Go.Proofs.YtbdnellgioimbaaW.PrintWords Go.Proofs.YtbdnellgioimbaaW.PrintLast Go.Proofs.YtbdnellgioimbaaW.PrintMore
theorem w64 {x : Int} (h0 : -9223372036854775808 ≤ x) (h1 : x ≤ 9223372036854775807) : wrap64 x = x := by unfold wrap64; omega
theorem w64s (i : Nat) (h : i ≤ 9000000000000000000) : wrap64 ((i : Int) + 1) = ((i + 1 : Nat) : Int) := by rw [w64 (by omega) (by omega)]; omega
theorem ev_succ {α : Type} {f : Nat → Option α} {r : α} (h : Ev (fun k => f (k + 1)) r) : Ev f r := Ev.step (fun _ => rfl) h
theorem rdI (p : List Nat) (i : Nat) : rd (I p) (i : Int) = ((g p i : Nat) : Int) := by
  unfold rd g I
  simp only [Int.toNat_natCast, List.getD_eq_getElem?_getD, List.getElem?_map]
  cases p[i]? <;> rfl
theorem rd_get (l : List Int) (i : Nat) (h : i < l.length) : rd l (i : Int) = l[i] := by
  unfold rd
  simp [List.getD_eq_getElem?_getD, h]
theorem mem_I {p : List Nat} {x : Nat} : (x : Int) ∈ I p ↔ x ∈ p := by
  unfold I
  constructor
  · intro h
    obtain ⟨y, hy, e⟩ := List.mem_map.mp h
    have : y = x := Int.ofNat.inj e
    exact this ▸ hy
  · intro h
    exact List.mem_map.mpr ⟨x, h, rfl⟩
def PI (l : List Int) : Prop := l.length ≤ 24 ∧ (∀ x ∈ l, 0 ≤ x ∧ x < (l.length : Int)) ∧ l.Nodup
instance : DecidablePred PI := fun l => by unfold PI; infer_instance
def permB (l : List Int) : Bool := decide (PI l)
def N (l : List Int) : List Nat := l.map Int.toNat
theorem N_I (p : List Nat) : N (I p) = p := by
  unfold N I
  rw [List.map_map]
  exact List.map_id'' (fun x => rfl) p
theorem N_len (l : List Int) : (N l).length = l.length := by simp [N]
theorem I_N {l : List Int} (h : ∀ x ∈ l, 0 ≤ x) : I (N l) = l := by
  unfold N I
  rw [List.map_map]
  conv => rhs; rw [← List.map_id l]
  apply List.map_congr_left
  intro x hx
  have := h x hx
  simp only [Function.comp, id]
  show ((x.toNat : Nat) : Int) = x
  omega
theorem PI_nat {l : List Int} (h : PI l) : ∃ p, l = I p ∧ IsP p ∧ p.length ≤ 24 := by
  obtain ⟨h1, h2, h3⟩ := h
  refine ⟨N l, (I_N (fun x hx => (h2 x hx).1)).symm, ?_, by rw [N_len]; exact h1⟩
  have e := I_N (fun x hx => (h2 x hx).1)
  refine ⟨fun x hx => ?_, ?_⟩
  · have := (h2 (x : Int) (by rw [← e]; exact mem_I.mpr hx)).2
    rw [N_len]
    omega
  · rw [← e] at h3
    unfold I at h3
    exact (List.pairwise_map.mp h3).imp (fun {a b} hab hh => hab (by rw [hh]))
theorem PI_I {p : List Nat} : PI (I p) ↔ IsP p ∧ p.length ≤ 24 := by
  constructor
  · intro h
    obtain ⟨q, e, h1, h2⟩ := PI_nat h
    have := I_inj e
    subst this
    exact ⟨h1, h2⟩
  · intro ⟨h1, h2⟩
    refine ⟨by rw [I_len]; exact h2, fun x hx => ?_, ?_⟩
    · unfold I at hx
      obtain ⟨y, hy, rfl⟩ := List.mem_map.mp hx
      have := h1.lt y hy
      rw [I_len]
      exact ⟨Int.natCast_nonneg y, Int.ofNat_lt.mpr this⟩
    · unfold I
      exact List.pairwise_map.mpr (h1.nd.imp (fun {a b} hab hh => hab (Int.ofNat.inj hh)))
theorem permB_I {p : List Nat} : permB (I p) = true ↔ IsP p ∧ p.length ≤ 24 := by
  unfold permB
  rw [decide_eq_true_iff]
  exact PI_I
def okFrom (l : List Int) (i : Nat) : Prop := ∀ j : Nat, i ≤ j → j < l.length → 0 ≤ rd l (j : Int) ∧ rd l (j : Int) < (l.length : Int) ∧ rd l (j : Int) ∉ l.take j
theorem okFrom_end (l : List Int) (i : Nat) (h : l.length ≤ i) : okFrom l i := fun j h1 h2 => by omega
theorem okFrom_step {l : List Int} {i : Nat} (h : 0 ≤ rd l (i : Int) ∧ rd l (i : Int) < (l.length : Int) ∧ rd l (i : Int) ∉ l.take i) : okFrom l i ↔ okFrom l (i + 1) := by
  constructor
  · intro k j h1 h2
    exact k j (by omega) h2
  · intro k j h1 h2
    by_cases e : j = i
    · subst e
      exact h
    · exact k j (by omega) h2
theorem okFrom_not {l : List Int} {i : Nat} (hi : i < l.length) (h : ¬ (0 ≤ rd l (i : Int) ∧ rd l (i : Int) < (l.length : Int) ∧ rd l (i : Int) ∉ l.take i)) : ¬ okFrom l i := fun k => h (k i (Nat.le_refl _) hi)
theorem okFrom_PI {l : List Int} (h : l.length ≤ 24) : okFrom l 0 ↔ PI l := by
  constructor
  · intro k
    refine ⟨h, fun x hx => ?_, ?_⟩
    · obtain ⟨i, hi, rfl⟩ := List.mem_iff_getElem.mp hx
      have := k i (Nat.zero_le _) hi
      rw [rd_get l i hi] at this
      exact ⟨this.1, this.2.1⟩
    · refine List.pairwise_iff_getElem.mpr ?_
      intro i j hi hj hij e
      have := (k j (Nat.zero_le _) hj).2.2
      rw [rd_get l j hj, ← e] at this
      exact this (List.mem_take_iff_getElem.mpr ⟨i, by omega, rfl⟩)
  · intro ⟨_, h2, h3⟩ j _ hj
    rw [rd_get l j hj]
    refine ⟨(h2 _ (List.getElem_mem hj)).1, (h2 _ (List.getElem_mem hj)).2, fun hm => ?_⟩
    obtain ⟨i, hi, e⟩ := List.mem_take_iff_getElem.mp hm
    exact List.pairwise_iff_getElem.mp h3 i j (by omega) hj (by omega) e
theorem permB_of {l : List Int} {b : Bool} (h : l.length ≤ 24) (hb : b = true ↔ okFrom l 0) : b = permB l := by
  rw [Bool.eq_iff_iff, hb, okFrom_PI h]
  unfold permB
  rw [decide_eq_true_iff]
theorem take_succ (l : List Int) (i : Nat) (h : i < l.length) : l.take (i + 1) = l.take i ++ [rd l (i : Int)] := by
  rw [rd_get l i h, List.take_append_getElem h]
def st1 (out : List Nat) (x : Nat) : List Nat := if x ∈ out then out else out ++ [x]
def bfs (p q : List Nat) : Nat → Nat → List Nat → List Nat
  | 0, _, out => out
  | f + 1, a, out => if a < out.length then bfs p q f (a + 1) (st1 (st1 out (g p (g out a))) (g q (g out a))) else out
def reach (p q : List Nat) (s : Nat) : List Nat := bfs p q (p.length + 1) 0 [s]
structure RInv (n : Nat) (out : List Nat) : Prop where
  nd : out.Nodup
  lt : ∀ x ∈ out, x < n
theorem RInv.le {n : Nat} {out : List Nat} (h : RInv n out) : out.length ≤ n := nodup_le n out h.nd h.lt
theorem RInv.st {n : Nat} {out : List Nat} {x : Nat} (h : RInv n out) (hx : x < n) : RInv n (st1 out x) := by
  unfold st1
  split
  · exact h
  · rename_i hn
    refine ⟨List.nodup_append.mpr ⟨h.nd, by simp, fun a ha b hb e => ?_⟩, fun y hy => ?_⟩
    · have : b = x := by simpa using hb
      subst this
      exact hn (e ▸ ha)
    · rcases List.mem_append.mp hy with hy | hy
      · exact h.lt y hy
      · have : y = x := by simpa using hy
        omega
theorem st1_len (out : List Nat) (x : Nat) : out.length ≤ (st1 out x).length := by
  unfold st1
  split <;> simp
theorem RInv.g {n : Nat} {out : List Nat} {a : Nat} (h : RInv n out) (ha : a < out.length) : M.g out a < n := h.lt _ (g_mem ha)
structure Sf (r u : List Nat) : Prop where
  pr : IsP r
  pu : IsP u
  le : r.length ≤ 24
  eq : u.length = r.length
  pos : 0 < r.length
  all : (reach r u 0).length = r.length
def surfB (r u : List Int) : Bool := permB r && permB u && decide (r.length = u.length) && decide (0 < r.length) && ((reach (N r) (N u) 0).length == r.length)
theorem surf_nat {r u : List Int} (h : surfB r u = true) : ∃ r' u', r = I r' ∧ u = I u' ∧ Sf r' u' := by
  unfold surfB at h
  simp only [Bool.and_eq_true, decide_eq_true_eq, beq_iff_eq] at h
  obtain ⟨⟨⟨⟨h1, h2⟩, h3⟩, h4⟩, h5⟩ := h
  obtain ⟨r', rfl, a1, a2⟩ := PI_nat (of_decide_eq_true h1)
  obtain ⟨u', rfl, b1, b2⟩ := PI_nat (of_decide_eq_true h2)
  rw [N_I, N_I, I_len] at h5
  rw [I_len, I_len] at h3
  rw [I_len] at h4
  exact ⟨r', u', rfl, rfl, a1, b1, a2, h3.symm, h4, h5⟩
theorem surfB_I {r u : List Nat} : surfB (I r) (I u) = true ↔ Sf r u := by
  constructor
  · intro h
    obtain ⟨r', u', e1, e2, hs⟩ := surf_nat h
    have := I_inj e1
    have := I_inj e2
    subst_vars
    exact hs
  · intro h
    unfold surfB
    simp only [Bool.and_eq_true, decide_eq_true_eq, beq_iff_eq]
    rw [N_I, N_I, I_len, I_len]
    exact ⟨⟨⟨⟨permB_I.mpr ⟨h.pr, h.le⟩, permB_I.mpr ⟨h.pu, by have := h.le; have := h.eq; omega⟩⟩, h.eq.symm⟩, h.pos⟩, h.all⟩
end Go.Proofs.Ytbdnellgioimbaa.M
end
section
/- Plain mathematics: going round a permutation. No conditions. -/
namespace Go.Proofs.Ytbdnellgioimbaa.M
set_option linter.unusedVariables false
set_option linter.unusedSimpArgs false
def itr (p : List Nat) : Nat → Nat → Nat
  | 0, s => s
  | m + 1, s => g p (itr p m s)
theorem itr_lt {p : List Nat} (hp : IsP p) (m : Nat) {s : Nat} (hs : s < p.length) : itr p m s < p.length := by
  induction m with
  | zero => exact hs
  | succ m ih => exact g_lt hp ih
theorem itr_add (p : List Nat) (a b s : Nat) : itr p (a + b) s = itr p a (itr p b s) := by
  induction a with
  | zero => simp [itr]
  | succ a ih =>
    have e : a + 1 + b = (a + b) + 1 := by omega
    rw [e, itr, itr, ih]
theorem itr_back {p : List Nat} (hp : IsP p) {s : Nat} (hs : s < p.length) (i d : Nat) (h : itr p (i + d) s = itr p i s) : itr p d s = s := by
  induction i with
  | zero =>
    have e : 0 + d = d := by omega
    rw [e] at h
    exact h
  | succ i ih =>
    have e : i + 1 + d = (i + d) + 1 := by omega
    rw [e] at h
    exact ih (g_inj hp (itr_lt hp _ hs) (itr_lt hp _ hs) h)
theorem period {p : List Nat} (hp : IsP p) {s : Nat} (hs : s < p.length) : ∃ m, 1 ≤ m ∧ m ≤ p.length ∧ itr p m s = s := by
  apply Classical.byContradiction
  intro hn
  have hd : ((List.range (p.length + 1)).map (fun m => itr p m s)).Nodup := by
    refine List.pairwise_map.mpr ?_
    refine List.pairwise_iff_getElem.mpr ?_
    intro i j hi hj hij
    rw [List.length_range] at hi hj
    rw [List.getElem_range, List.getElem_range]
    intro e
    have : itr p (j - i) s = s := itr_back hp hs i (j - i) (by
      have e2 : i + (j - i) = j := by omega
      rw [e2]
      exact e.symm)
    exact hn ⟨j - i, by omega, by omega, this⟩
  have := nodup_le p.length _ hd (fun x hx => by
    obtain ⟨m, _, rfl⟩ := List.mem_map.mp hx
    exact itr_lt hp m hs)
  simp at this
  omega
def per (p : List Nat) (s : Nat) : Nat := (((List.range p.length).find? (fun m => itr p (m + 1) s == s)).getD 0) + 1
theorem per_spec {p : List Nat} (hp : IsP p) {s : Nat} (hs : s < p.length) : itr p (per p s) s = s ∧ per p s ≤ p.length ∧ ∀ m, 1 ≤ m → m < per p s → itr p m s ≠ s := by
  obtain ⟨m, m1, m2, m3⟩ := period hp hs
  unfold per
  cases h : (List.range p.length).find? (fun m => itr p (m + 1) s == s) with
  | none =>
    have := List.find?_eq_none.mp h (m - 1) (List.mem_range.mpr (by omega))
    have e : m - 1 + 1 = m := by omega
    rw [e, m3] at this
    simp at this
  | some a =>
    simp only [Option.getD_some]
    have h1 := List.find?_some h
    have h2 := List.mem_of_find?_eq_some h
    rw [List.mem_range] at h2
    refine ⟨by simpa using h1, by omega, fun m hm1 hm2 e => ?_⟩
    obtain ⟨_, as1, bs1, hb, hn⟩ := List.find?_eq_some_iff_append.mp h
    have hm : m - 1 ∈ as1 := by
      have hl : as1.length = a := by
        have e1 : (List.range p.length)[as1.length]? = some a := by rw [hb]; simp
        have := List.getElem?_eq_some_iff.mp e1
        obtain ⟨_, e2⟩ := this
        rw [List.getElem_range] at e2
        exact e2
      have e1 : (List.range p.length)[m - 1]? = some (m - 1) := by
        rw [List.getElem?_range]
        omega
      rw [hb, List.getElem?_append_left (by omega)] at e1
      exact List.mem_of_getElem? e1
    have := hn _ hm
    have e3 : m - 1 + 1 = m := by omega
    rw [e3, e] at this
    simp at this
theorem per_pos (p : List Nat) (s : Nat) : 1 ≤ per p s := by unfold per; omega
def orbTo (p : List Nat) (s m : Nat) : List Nat := (List.range m).map (fun k => itr p k s)
def orb (p : List Nat) (s : Nat) : List Nat := orbTo p s (per p s)
theorem mem_orbTo {p : List Nat} {s m x : Nat} : x ∈ orbTo p s m ↔ ∃ k, k < m ∧ itr p k s = x := by
  unfold orbTo
  simp
theorem orbTo_snoc (p : List Nat) (s m : Nat) : orbTo p s m ++ [itr p m s] = orbTo p s (m + 1) := by
  unfold orbTo
  rw [List.range_succ]
  simp
theorem orb_close {p : List Nat} (hp : IsP p) {s m : Nat} (hs : s < p.length) (hm : m < per p s) (h1 : 1 ≤ m) : itr p m s ∉ orbTo p s m := by
  intro h
  obtain ⟨k, hk, e⟩ := mem_orbTo.mp h
  have : itr p (m - k) s = s := itr_back hp hs k (m - k) (by
    have e2 : k + (m - k) = m := by omega
    rw [e2]
    exact e.symm)
  exact (per_spec hp hs).2.2 (m - k) (by omega) (by omega) this
theorem mem_orb {p : List Nat} (hp : IsP p) {s : Nat} (hs : s < p.length) {x : Nat} : x ∈ orb p s ↔ ∃ k, itr p k s = x := by
  constructor
  · intro h
    obtain ⟨k, _, e⟩ := mem_orbTo.mp h
    exact ⟨k, e⟩
  · intro ⟨k, e⟩
    have hper := per_spec hp hs
    have hpos := per_pos p s
    have hmod : ∀ k, itr p (k % per p s) s = itr p k s := by
      intro k
      have e1 : k % per p s + per p s * (k / per p s) = k := Nat.mod_add_div k (per p s)
      have hz : ∀ j, itr p (per p s * j) s = s := by
        intro j
        induction j with
        | zero => rfl
        | succ j ih =>
          have : per p s * (j + 1) = per p s * j + per p s := by rw [Nat.mul_add, Nat.mul_one]
          rw [this, itr_add, hper.1, ih]
      conv => rhs; rw [← e1]
      rw [itr_add, hz]
    exact mem_orbTo.mpr ⟨k % per p s, Nat.mod_lt _ (by omega), by rw [hmod, e]⟩
theorem orb_self {p : List Nat} (hp : IsP p) {s : Nat} (hs : s < p.length) : s ∈ orb p s := (mem_orb hp hs).mpr ⟨0, rfl⟩
theorem orb_lt {p : List Nat} (hp : IsP p) {s : Nat} (hs : s < p.length) {x : Nat} (h : x ∈ orb p s) : x < p.length := by
  obtain ⟨k, rfl⟩ := (mem_orb hp hs).mp h
  exact itr_lt hp k hs
theorem orb_sym {p : List Nat} (hp : IsP p) {s : Nat} (hs : s < p.length) {x : Nat} (h : x ∈ orb p s) : s ∈ orb p x := by
  obtain ⟨k, hk, e⟩ := mem_orbTo.mp h
  have hx := orb_lt hp hs h
  refine (mem_orb hp hx).mpr ⟨per p s - k, ?_⟩
  rw [← e, ← itr_add]
  have : per p s - k + k = per p s := by omega
  rw [this]
  exact (per_spec hp hs).1
theorem orb_trans {p : List Nat} (hp : IsP p) {s : Nat} (hs : s < p.length) {x y : Nat} (h : x ∈ orb p s) (k : y ∈ orb p x) : y ∈ orb p s := by
  have hx := orb_lt hp hs h
  obtain ⟨a, rfl⟩ := (mem_orb hp hs).mp h
  obtain ⟨b, rfl⟩ := (mem_orb hp hx).mp k
  exact (mem_orb hp hs).mpr ⟨b + a, itr_add p b a s⟩
def cyc (p : List Nat) : Nat → List (List Nat)
  | 0 => []
  | i + 1 => if ∃ c ∈ cyc p i, i ∈ c then cyc p i else cyc p i ++ [orb p i]
def cycles (p : List Nat) : List (List Nat) := cyc p p.length
theorem cyc_form (p : List Nat) (i : Nat) : ∀ c ∈ cyc p i, ∃ s, s < i ∧ c = orb p s := by
  induction i with
  | zero => intro c h; simp [cyc] at h
  | succ i ih =>
    intro c h
    unfold cyc at h
    split at h
    · obtain ⟨s, h1, h2⟩ := ih c h
      exact ⟨s, by omega, h2⟩
    · rcases List.mem_append.mp h with h | h
      · obtain ⟨s, h1, h2⟩ := ih c h
        exact ⟨s, by omega, h2⟩
      · exact ⟨i, by omega, by simpa using h⟩
theorem cyc_all {p : List Nat} (hp : IsP p) (i : Nat) (hi : i ≤ p.length) : ∀ x, x < i → ∃ c ∈ cyc p i, x ∈ c := by
  induction i with
  | zero => intro x h; omega
  | succ i ih =>
    intro x h
    unfold cyc
    by_cases e : x = i
    · subst e
      split
      · assumption
      · exact ⟨orb p x, by simp, orb_self hp (by omega)⟩
    · obtain ⟨c, h1, h2⟩ := ih (by omega) x (by omega)
      split
      · exact ⟨c, h1, h2⟩
      · exact ⟨c, List.mem_append.mpr (.inl h1), h2⟩
theorem orb_meet {p : List Nat} (hp : IsP p) {s t x : Nat} (hs : s < p.length) (ht : t < p.length) (h1 : x ∈ orb p s) (h2 : x ∈ orb p t) : t ∈ orb p s :=
  orb_trans hp hs h1 (orb_sym hp ht h2)
theorem cyc_new {p : List Nat} (hp : IsP p) {i : Nat} (hi : i < p.length) (h : ¬ ∃ c ∈ cyc p i, i ∈ c) {x : Nat} (hx : x ∈ orb p i) : ¬ ∃ c ∈ cyc p i, x ∈ c := by
  intro ⟨c, hc, hm⟩
  obtain ⟨s, hs, rfl⟩ := cyc_form p i c hc
  exact h ⟨_, hc, orb_meet hp (by omega) hi hm hx⟩
end Go.Proofs.Ytbdnellgioimbaa.M
end
section
/- Plain mathematics: surfaces, and what the four letters make of them. No conditions. -/
namespace Go.Proofs.Ytbdnellgioimbaa.M
set_option linter.unusedVariables false
set_option linter.unusedSimpArgs false
theorem st1_mem {out : List Nat} {x y : Nat} : y ∈ st1 out x ↔ y ∈ out ∨ y = x := by
  unfold st1
  split
  · rename_i h
    constructor
    · exact Or.inl
    · rintro (h' | rfl)
      · exact h'
      · exact h
  · simp
theorem st1_g {out : List Nat} {x i : Nat} (h : i < out.length) : g (st1 out x) i = g out i := by
  unfold st1
  split
  · rfl
  · unfold g
    rw [List.getD_eq_getElem?_getD, List.getD_eq_getElem?_getD, List.getElem?_append_left h]
theorem st1_le (out : List Nat) (x : Nat) : out.length ≤ (st1 out x).length := by
  unfold st1
  split
  · exact Nat.le_refl _
  · simp
theorem bfs_ind {r u : List Nat} {n : Nat} (S : Nat → Prop) (h1 : ∀ x, x < n → S x → S (g r x) ∧ g r x < n) (h2 : ∀ x, x < n → S x → S (g u x) ∧ g u x < n) : ∀ (F a : Nat) (out : List Nat), (∀ x ∈ out, S x ∧ x < n) → ∀ x ∈ bfs r u F a out, S x ∧ x < n := by
  intro F
  induction F with
  | zero => intro a out h; exact h
  | succ F ih =>
    intro a out h
    unfold bfs
    split
    · rename_i ha
      obtain ⟨s, l⟩ := h _ (g_mem ha)
      refine ih _ _ (fun x hx => ?_)
      rcases st1_mem.mp hx with hx | rfl
      · rcases st1_mem.mp hx with hx | rfl
        · exact h x hx
        · exact h1 _ l s
      · exact h2 _ l s
    · exact h
theorem bfs_sub {r u : List Nat} : ∀ (F a : Nat) (out : List Nat), ∀ x ∈ out, x ∈ bfs r u F a out := by
  intro F
  induction F with
  | zero => intro a out x h; exact h
  | succ F ih =>
    intro a out x h
    unfold bfs
    split
    · exact ih _ _ x (st1_mem.mpr (.inl (st1_mem.mpr (.inl h))))
    · exact h
theorem bfs_rinv {r u : List Nat} {n : Nat} (h1 : ∀ x, x < n → g r x < n) (h2 : ∀ x, x < n → g u x < n) : ∀ (F a : Nat) (out : List Nat), RInv n out → RInv n (bfs r u F a out) := by
  intro F
  induction F with
  | zero => intro a out h; exact h
  | succ F ih =>
    intro a out h
    unfold bfs
    split
    · rename_i ha
      have hx := h.g ha
      exact ih _ _ ((h.st (h1 _ hx)).st (h2 _ hx))
    · exact h
theorem bfs_shut {r u : List Nat} {n : Nat} (h1 : ∀ x, x < n → g r x < n) (h2 : ∀ x, x < n → g u x < n) : ∀ (F a : Nat) (out : List Nat), RInv n out → a ≤ out.length → n < F + a → (∀ i, i < a → g r (g out i) ∈ out ∧ g u (g out i) ∈ out) → ∀ x ∈ bfs r u F a out, g r x ∈ bfs r u F a out ∧ g u x ∈ bfs r u F a out := by
  intro F
  induction F with
  | zero =>
    intro a out h ha hF
    have := h.le
    omega
  | succ F ih =>
    intro a out h ha hF hc
    unfold bfs
    split
    · rename_i ha'
      have hx := h.g ha'
      have r1 := h.st (h1 _ hx)
      have l1 := st1_le out (g r (g out a))
      have l2 := st1_le (st1 out (g r (g out a))) (g u (g out a))
      refine ih _ _ (r1.st (h2 _ hx)) (by omega) (by omega) (fun i hi => ?_)
      have e : g (st1 (st1 out (g r (g out a))) (g u (g out a))) i = g out i := by
        rw [st1_g (by omega), st1_g (by omega)]
      rw [e]
      by_cases hia : i < a
      · exact ⟨st1_mem.mpr (.inl (st1_mem.mpr (.inl (hc i hia).1))), st1_mem.mpr (.inl (st1_mem.mpr (.inl (hc i hia).2)))⟩
      · obtain rfl : i = a := by omega
        exact ⟨st1_mem.mpr (.inl (st1_mem.mpr (.inr rfl))), st1_mem.mpr (.inr rfl)⟩
    · intro x hx
      obtain ⟨i, hi, rfl⟩ := mem_g hx
      exact hc i (by omega)
theorem nodup_sub_len5 : ∀ (a b : List Nat), a.Nodup → (∀ x ∈ a, x ∈ b) → a.length ≤ b.length := by
  intro a
  induction a with
  | nil => intro b _ _; simp
  | cons x a ih =>
    intro b hn h
    obtain ⟨h1, h2⟩ := List.nodup_cons.mp hn
    have hx : x ∈ b := h x (by simp)
    have := ih (b.erase x) h2 (fun y hy => (List.mem_erase_of_ne (fun e => h1 (by rw [← e]; exact hy))).mpr (h y (by simp [hy])))
    rw [List.length_erase_of_mem hx] at this
    have hp := List.length_pos_of_mem hx
    simp
    omega
def Tr (r u : List Nat) : Prop := ∀ S : Nat → Prop, S 0 → (∀ x, x < r.length → S x → S (g r x)) → (∀ x, x < r.length → S x → S (g u x)) → ∀ x, x < r.length → S x
theorem sf_of_tr {r u : List Nat} (pr : IsP r) (pu : IsP u) (le : r.length ≤ 24) (eq : u.length = r.length) (pos : 0 < r.length) (h : Tr r u) : Sf r u := by
  have b1 : ∀ x, x < r.length → g r x < r.length := fun x hx => g_lt pr hx
  have b2 : ∀ x, x < r.length → g u x < r.length := fun x hx => by have := g_lt pu (i := x) (by omega); omega
  have hri : RInv r.length (reach r u 0) := bfs_rinv b1 b2 _ _ _ ⟨by simp, by simpa using pos⟩
  have hsh := bfs_shut b1 b2 (r.length + 1) 0 [0] ⟨by simp, by simpa using pos⟩ (by simp) (by omega) (fun i hi => by omega)
  have hall : ∀ x, x < r.length → x ∈ reach r u 0 := h (fun x => x ∈ reach r u 0) (bfs_sub _ _ _ 0 (by simp)) (fun x _ hx => (hsh x hx).1) (fun x _ hx => (hsh x hx).2)
  refine ⟨pr, pu, le, eq, pos, ?_⟩
  have l1 := hri.le
  have l2 := nodup_sub_len5 (List.range r.length) (reach r u 0) List.nodup_range (fun x hx => hall x (List.mem_range.mp hx))
  rw [List.length_range] at l2
  omega
theorem Sf.tr {r u : List Nat} (hs : Sf r u) : Tr r u := by
  intro S s0 h1 h2 x hx
  have b1 : ∀ x, x < r.length → g r x < r.length := fun x hx => g_lt hs.pr hx
  have b2 : ∀ x, x < r.length → g u x < r.length := fun x hx => by have := g_lt hs.pu (i := x) (by rw [hs.eq]; exact hx); rw [hs.eq] at this; exact this
  have hri : RInv r.length (reach r u 0) := bfs_rinv b1 b2 _ _ _ ⟨by simp, by simpa using hs.pos⟩
  have hp : IsP (reach r u 0) := ⟨fun x hx => by rw [hs.all]; exact hri.lt x hx, hri.nd⟩
  have hm := mem_all hp (x := x) (by rw [hs.all]; exact hx)
  have h0 : ∀ y ∈ [0], S y ∧ y < r.length := by
    intro y hy
    obtain rfl : y = 0 := by simpa using hy
    exact ⟨s0, hs.pos⟩
  exact (bfs_ind S (fun x hx h => ⟨h1 x hx h, b1 x hx⟩) (fun x hx h => ⟨h2 x hx h, b2 x hx⟩) _ _ [0] h0 x hm).1
theorem closed_back {p : List Nat} (hp : IsP p) {S : Nat → Prop} (hS : ∀ x, x < p.length → S x → S (g p x)) {x : Nat} (hx : x < p.length) (h : S (g p x)) : S x := by
  obtain ⟨m, h1, _, h3⟩ := period hp hx
  have H : ∀ k, S (itr p k (g p x)) := by
    intro k
    induction k with
    | zero => exact h
    | succ k ih => exact hS _ (itr_lt hp k (g_lt hp hx)) ih
  have e : itr p (m - 1) (g p x) = itr p m x := by
    have := itr_add p (m - 1) 1 x
    rw [show m - 1 + 1 = m by omega] at this
    exact this.symm
  have := H (m - 1)
  rw [e, h3] at this
  exact this
theorem sf_T {r u : List Nat} (hs : Sf r u) : Sf r (thn (inv r) u) := by
  have h1 : (inv r).length = u.length := by rw [inv_len, hs.eq]
  refine sf_of_tr hs.pr (isP_thn (isP_inv hs.pr) hs.pu h1) hs.le (by rw [thn_len, inv_len]) hs.pos (fun S s0 k1 k2 => hs.tr S s0 k1 (fun x hx hsx => ?_))
  have := k2 (g r x) (g_lt hs.pr hx) (k1 x hx hsx)
  rw [g_thn (by rw [inv_len]; exact g_lt hs.pr hx), g_inv (g_lt hs.pr hx), ix_g hs.pr hx] at this
  exact this
theorem sf_t {r u : List Nat} (hs : Sf r u) : Sf r (thn r u) := by
  have h1 : r.length = u.length := hs.eq.symm
  refine sf_of_tr hs.pr (isP_thn hs.pr hs.pu h1) hs.le (by rw [thn_len]) hs.pos (fun S s0 k1 k2 => hs.tr S s0 k1 (fun y hy hsy => ?_))
  have hx : ix r y < r.length := ix_lt hs.pr hy
  have e : g r (ix r y) = y := g_ix hs.pr hy
  have hsx : S (ix r y) := closed_back hs.pr (S := S) k1 hx (by rw [e]; exact hsy)
  have := k2 _ hx hsx
  rw [g_thn hx, e] at this
  exact this
theorem sf_S {r u : List Nat} (hs : Sf r u) : Sf (inv u) r := by
  have hl : (inv u).length = r.length := by rw [inv_len, hs.eq]
  refine sf_of_tr (isP_inv hs.pu) hs.pr (by rw [hl]; exact hs.le) hl.symm (by rw [hl]; exact hs.pos) (fun S s0 k1 k2 => ?_)
  rw [hl] at k1 k2 ⊢
  refine hs.tr S s0 k2 (fun x hx hsx => ?_)
  have hx' : g u x < u.length := g_lt hs.pu (by rw [hs.eq]; exact hx)
  refine closed_back (isP_inv hs.pu) (S := S) (fun y hy => k1 y (by rw [← hl]; exact hy)) (x := g u x) (by rw [inv_len]; exact hx') ?_
  rw [g_inv hx', ix_g hs.pu (by rw [hs.eq]; exact hx)]
  exact hsx
theorem sf_s {r u : List Nat} (hs : Sf r u) : Sf u (inv r) := by
  refine sf_of_tr hs.pu (isP_inv hs.pr) (by rw [hs.eq]; exact hs.le) (by rw [inv_len, hs.eq]) (by rw [hs.eq]; exact hs.pos) (fun S s0 k1 k2 => ?_)
  rw [hs.eq] at k1 k2 ⊢
  refine hs.tr S s0 (fun x hx hsx => ?_) k1
  have hx' : g r x < r.length := g_lt hs.pr hx
  refine closed_back (isP_inv hs.pr) (S := S) (fun y hy => k2 y (by rw [inv_len] at hy; exact hy)) (x := g r x) (by rw [inv_len]; exact hx') ?_
  rw [g_inv hx', ix_g hs.pr hx]
  exact hsx
end Go.Proofs.Ytbdnellgioimbaa.M
end
section
/- The tests of permutations, program and reference, come to one plain test. No conditions. -/
namespace Go.Proofs.Ytbdnellgioimbaa.M
set_option linter.unusedVariables false
set_option linter.unusedSimpArgs false
open Go.RowKit Go.Proofs.YtbdnellgioimbaaW.PrintWords Go.Proofs.YtbdnellgioimbaaW.PrintLast Go.Proofs.YtbdnellgioimbaaW.PrintMore Go.Proofs.Ytbdnellgioimbaa.A
theorem has_ev (l : List Int) (a : Int) (hl : l.length ≤ 1000000000) : Ev (fun k => spec_l02Has.f k l a) (decide (a ∈ l)) := by
  have H : ∀ d i : Nat, i + d = l.length → Ev (fun k => spec_l02Has.l0 k a l (l.length : Int) (i : Int)) (decide (a ∈ l.drop i)) := by
    intro d
    induction d with
    | zero =>
      intro i h
      refine ev_succ ?_
      have h1 : ¬ ((i : Int) < (l.length : Int)) := by omega
      have e : decide (a ∈ l.drop i) = false := by
        rw [List.drop_of_length_le (by omega)]
        simp
      simp only [spec_l02Has.l0, h1, if_false]
      rw [e]
      exact Ev.now _
    | succ d ih =>
      intro i h
      refine ev_succ ?_
      have hi : i < l.length := by omega
      have h1 : (i : Int) < (l.length : Int) := by omega
      have h2 : (0 : Int) ≤ (i : Int) := by omega
      have h3 := w64s i (by omega)
      have e := List.drop_eq_getElem_cons hi
      rw [← rd_get l i hi] at e
      by_cases hr : rd l (i : Int) = a
      · have e2 : decide (a ∈ l.drop i) = true := by rw [e, hr]; simp
        simp only [spec_l02Has.l0, h1, h2, hr, if_true]
        rw [e2]
        exact Ev.now _
      · have e2 : decide (a ∈ l.drop i) = decide (a ∈ l.drop (i + 1)) := by
          rw [e]
          have : ¬ a = rd l (i : Int) := fun h => hr h.symm
          simp [this]
        simp only [spec_l02Has.l0, h1, h2, h3, hr, if_true, if_false]
        rw [e2]
        exact ih (i + 1) (by omega)
  have := H l.length 0 (by omega)
  simpa [spec_l02Has.f] using this
theorem in_f (x : Int) (n : Nat) (hn : n ≤ 24) : spec_l01In.f x 0 (wrap64 ((n : Int) - 1)) = some (decide (0 ≤ x ∧ x < (n : Int))) := by
  unfold spec_l01In.f
  rw [w64 (by omega) (by omega)]
  by_cases h : x ≥ 0
  · rw [if_pos h]
    congr 1
    rw [Bool.eq_iff_iff, decide_eq_true_iff, decide_eq_true_iff]
    omega
  · rw [if_neg h]
    congr 1
    symm
    rw [decide_eq_false_iff_not]
    omega
theorem spec_permOk (l : List Int) : Ev (fun k => spec_PermOk.f k l) (permB l) := by
  unfold spec_PermOk.f
  by_cases h24 : (l.length : Int) > 24
  · simp only [h24, if_true]
    have : permB l = false := by
      unfold permB
      rw [decide_eq_false_iff_not]
      intro h
      have := h.1
      omega
    rw [this]
    exact Ev.now _
  · simp only [h24, if_false]
    have H : ∀ d i : Nat, i + d = l.length → ∃ b, Ev (fun k => spec_PermOk.l0 k l l (l.length : Int) (i : Int)) b ∧ (b = true ↔ okFrom l i) := by
      intro d
      induction d with
      | zero =>
        intro i h
        refine ⟨true, ev_succ ?_, by simp [okFrom_end l i (by omega)]⟩
        have h1 : ¬ ((i : Int) < (l.length : Int)) := by omega
        simp only [spec_PermOk.l0, h1, if_false]
        exact Ev.now _
      | succ d ih =>
        intro i h
        have hi : i < l.length := by omega
        have h1 : (i : Int) < (l.length : Int) := by omega
        have h1' : (i : Int) ≤ (l.length : Int) := by omega
        have h2 : (0 : Int) ≤ (i : Int) := by omega
        have h3 := w64s i (by omega)
        have hin := in_f (rd l (i : Int)) l.length (by omega)
        by_cases c1 : 0 ≤ rd l (i : Int) ∧ rd l (i : Int) < (l.length : Int)
        · have hh := has_ev (l.take i) (rd l (i : Int)) (by rw [List.length_take]; omega)
          by_cases c2 : rd l (i : Int) ∈ l.take i
          · refine ⟨false, ev_succ ?_, by simpa using okFrom_not hi (fun h => h.2.2 c2)⟩
            simp only [spec_PermOk.l0, h1, h1', h2, hin, c1, if_true, Option.bind_some, decide_true, Int.toNat_natCast, and_self]
            refine Ev.bind hh ?_
            simp only [c2, decide_true, if_true]
            exact Ev.now _
          · obtain ⟨b, i1, i2⟩ := ih (i + 1) (by omega)
            refine ⟨b, ev_succ ?_, by rw [i2]; exact (okFrom_step ⟨c1.1, c1.2, c2⟩).symm⟩
            simp only [spec_PermOk.l0, h1, h1', h2, h3, hin, c1, if_true, Option.bind_some, decide_true, Int.toNat_natCast, and_self]
            refine Ev.bind hh ?_
            simp only [c2, decide_false, Bool.false_eq_true, if_false]
            exact i1
        · refine ⟨false, ev_succ ?_, by simpa using okFrom_not hi (fun h => c1 ⟨h.1, h.2.1⟩)⟩
          simp only [spec_PermOk.l0, h1, h2, hin, c1, if_true, if_false, Option.bind_some, decide_false, Bool.false_eq_true]
          exact Ev.now _
    obtain ⟨b, i1, i2⟩ := H l.length 0 (by omega)
    rw [← permB_of (by omega) i2]
    exact i1
theorem rdOf_nat (s : List Bool) (x : Nat) : rdOf false s (x : Int) = s.getD x false := rfl
theorem getD_set (s : List Bool) (x y : Nat) (h : x < s.length) : (s.set x true).getD y false = if x = y then true else s.getD y false := by
  rw [List.getD_eq_getElem?_getD, List.getD_eq_getElem?_getD, List.getElem?_set]
  by_cases e : x = y
  · subst e
    simp [h]
  · simp [e]
theorem impl_permOk (l : List Int) : Ev (fun k => impl_PermOk.f k l) (permB l) := by
  unfold impl_PermOk.f
  by_cases h24 : (l.length : Int) > 24
  · simp only [h24, if_true]
    have : permB l = false := by
      unfold permB
      rw [decide_eq_false_iff_not]
      intro h
      have := h.1
      omega
    rw [this]
    exact Ev.now _
  · simp only [h24, if_false]
    have H : ∀ (d i : Nat) (s : List Bool), i + d = l.length → s.length = 24 → (∀ x : Nat, x < 24 → (s.getD x false = true ↔ (x : Int) ∈ l.take i)) → ∃ b, Ev (fun k => impl_PermOk.l0 k l s (i : Int)) b ∧ (b = true ↔ okFrom l i) := by
      intro d
      induction d with
      | zero =>
        intro i s h hs hx
        refine ⟨true, ev_succ ?_, by simp [okFrom_end l i (by omega)]⟩
        have h1 : ¬ ((i : Int) < (l.length : Int)) := by omega
        simp only [impl_PermOk.l0, h1, if_false]
        exact Ev.now _
      | succ d ih =>
        intro i s h hs hx
        have hi : i < l.length := by omega
        have h1 : (i : Int) < (l.length : Int) := by omega
        have h2 : (0 : Int) ≤ (i : Int) := by omega
        have h3 := w64s i (by omega)
        by_cases c1 : rd l (i : Int) < 0
        · refine ⟨false, ev_succ ?_, by simpa using okFrom_not hi (fun h => by omega)⟩
          simp only [impl_PermOk.l0, h1, h2, c1, if_true]
          exact Ev.now _
        · by_cases c2 : rd l (i : Int) ≥ (l.length : Int)
          · refine ⟨false, ev_succ ?_, by simpa using okFrom_not hi (fun h => by omega)⟩
            simp only [impl_PermOk.l0, h1, h2, c1, c2, if_true, if_false]
            exact Ev.now _
          · obtain ⟨x, ex⟩ : ∃ x : Nat, rd l (i : Int) = (x : Int) := ⟨(rd l (i : Int)).toNat, by omega⟩
            have hx24 : x < 24 := by omega
            by_cases c3 : s.getD x false = true
            · have hm := (hx x hx24).mp c3
              refine ⟨false, ev_succ ?_, by simpa using okFrom_not hi (fun h => h.2.2 (by rw [ex]; exact hm))⟩
              rw [ex] at c1 c2
              simp only [impl_PermOk.l0, h1, h2, ex, c1, c2, rdOf_nat, c3, if_true, if_false]
              exact Ev.now _
            · have hm : (x : Int) ∉ l.take i := fun h => c3 ((hx x hx24).mpr h)
              obtain ⟨b, i1, i2⟩ := ih (i + 1) (s.set x true) (by omega) (by rw [List.length_set]; exact hs) (fun y hy => by
                rw [getD_set s x y (by omega), take_succ l i hi, ex]
                by_cases e : x = y
                · subst e
                  simp
                · rw [if_neg e, hx y hy]
                  have : ¬ (y : Int) = (x : Int) := by omega
                  simp [this])
              refine ⟨b, ev_succ ?_, by rw [i2]; exact (okFrom_step ⟨by omega, by omega, by rw [ex]; exact hm⟩).symm⟩
              rw [ex] at c1 c2
              simp only [impl_PermOk.l0, h1, h2, h3, ex, c1, c2, rdOf_nat, c3, if_true, if_false, Int.toNat_natCast]
              exact i1
    obtain ⟨b, i1, i2⟩ := H l.length 0 (List.replicate 24 false) (by omega) rfl (fun x hx => by
      have : (List.replicate 24 false).getD x false = false := by
        rw [List.getD_eq_getElem?_getD, List.getElem?_replicate]
        simp [hx]
      rw [this]
      simp)
    rw [← permB_of (by omega) i2]
    exact i1
end Go.Proofs.Ytbdnellgioimbaa.M
end
section
/- The tests of surfaces, program and reference, come to one plain test. No conditions. -/
namespace Go.Proofs.Ytbdnellgioimbaa.M
set_option linter.unusedVariables false
set_option linter.unusedSimpArgs false
open Go.RowKit Go.Proofs.YtbdnellgioimbaaW.PrintWords Go.Proofs.YtbdnellgioimbaaW.PrintLast Go.Proofs.YtbdnellgioimbaaW.PrintMore Go.Proofs.Ytbdnellgioimbaa.A
theorem I_pair (a b : Nat) : ([(a : Int), (b : Int)] : List Int) = I [a, b] := rfl
theorem I_len' (l : List Nat) : ((I l).length : Int) = (l.length : Int) := by rw [I_len]
theorem st1_I (out : List Nat) (x : Nat) : I (st1 out x) = if (x : Int) ∈ I out then I out else I out ++ [(x : Int)] := by
  unfold st1
  by_cases h : x ∈ out
  · rw [if_pos h, if_pos (mem_I.mpr h)]
  · rw [if_neg h, if_neg (fun k => h (mem_I.mp k)), I_snoc]
theorem reach_one (p q out pr : List Nat) (a : Nat) (j : Nat) (hj : j < pr.length) (hp : pr.length ≤ 2) (hl : out.length ≤ 1000) (r : List Int)
    (H : Ev (fun k => spec_l02Reach.l1 k (I p) (I q) (I (st1 out (g pr j))) (a : Int) (I pr) (pr.length : Int) ((j + 1 : Nat) : Int)) r) :
    Ev (fun k => spec_l02Reach.l1 k (I p) (I q) (I out) (a : Int) (I pr) (pr.length : Int) (j : Int)) r := by
  refine ev_succ ?_
  have h1 : (j : Int) < (pr.length : Int) := by omega
  have h2 : (0 : Int) ≤ (j : Int) := by omega
  have h3 := w64s j (by omega)
  have h4 : (I out).length < 17592186044416 := by rw [I_len]; omega
  have hh := has_ev (I out) ((g pr j : Nat) : Int) (by rw [I_len]; omega)
  simp only [spec_l02Reach.l1, h1, h2, h3, h4, rdI, I_len', if_true]
  refine Ev.bind hh ?_
  rw [st1_I] at H
  by_cases hm : ((g pr j : Nat) : Int) ∈ I out
  · rw [if_pos hm] at H
    simp only [hm, decide_true, if_true]
    exact H
  · rw [if_neg hm] at H
    simp only [hm, decide_false, Bool.false_eq_true, if_false]
    exact H
theorem reach_loop {p q : List Nat} (hp : IsP p) (hq : IsP q) (hl : q.length = p.length) (h24 : p.length ≤ 24) (f : Nat) : ∀ (a : Nat) (out : List Nat), RInv p.length out → a ≤ out.length → p.length < f + a →
    Ev (fun k => spec_l02Reach.l0 k (I p) (I q) (I out) (a : Int)) (I (bfs p q f a out)) := by
  induction f with
  | zero =>
    intro a out hr ha hf
    have := hr.le
    omega
  | succ f ih =>
    intro a out hr ha hf
    have hle := hr.le
    refine ev_succ ?_
    by_cases h : a < out.length
    · have h1 : (a : Int) < (out.length : Int) := by omega
      have h2 : (0 : Int) ≤ (a : Int) := by omega
      have hx := hr.g h
      have h3 : ((g out a : Nat) : Int) < (p.length : Int) := by omega
      have h4 : (0 : Int) ≤ ((g out a : Nat) : Int) := by omega
      have h5 : ((g out a : Nat) : Int) < (q.length : Int) := by omega
      have h6 := w64s a (by omega)
      simp only [spec_l02Reach.l0, h1, h2, h3, h4, h5, rdI, I_len', if_true, Option.bind_some, I_pair]
      have r1 := hr.st (g_lt hp hx)
      have r2 := r1.st (x := g q (g out a)) (by have := g_lt hq (i := g out a) (by omega); omega)
      have hb : bfs p q (f + 1) a out = bfs p q f (a + 1) (st1 (st1 out (g p (g out a))) (g q (g out a))) := by
        rw [bfs, if_pos h]
      rw [hb]
      have i1 := ih (a + 1) _ r2 (by have := st1_len out (g p (g out a)); have := st1_len (st1 out (g p (g out a))) (g q (g out a)); omega) (by omega)
      refine reach_one p q out [g p (g out a), g q (g out a)] a 0 (by simp) (by simp) (by omega) _ ?_
      refine reach_one p q _ [g p (g out a), g q (g out a)] a 1 (by simp) (by simp) (by have := r1.le; simp only [g, List.getD_cons_zero] at this ⊢; omega) _ ?_
      refine ev_succ ?_
      have h7 : ¬ (((1 + 1 : Nat) : Int) < (([g p (g out a), g q (g out a)] : List Nat).length : Int)) := by simp
      simp only [spec_l02Reach.l1, h7, h6, if_false]
      exact i1
    · have h1 : ¬ ((a : Int) < (out.length : Int)) := by omega
      have hb : bfs p q (f + 1) a out = out := by rw [bfs, if_neg h]
      rw [hb]
      simp only [spec_l02Reach.l0, h1, I_len', if_false]
      exact Ev.now _
theorem reach_ev {p q : List Nat} (hp : IsP p) (hq : IsP q) (hl : q.length = p.length) (h24 : p.length ≤ 24) (s : Nat) (hs : s < p.length) : Ev (fun k => spec_l02Reach.f k (I p) (I q) (s : Int)) (I (reach p q s)) := by
  unfold spec_l02Reach.f reach
  exact reach_loop hp hq hl h24 (p.length + 1) 0 [s] ⟨by simp, by simpa using hs⟩ (by simp) (by omega)
theorem len_ne_false {r u : List Int} (h : r.length ≠ u.length) : surfB r u = false := by
  unfold surfB
  simp [h]
theorem surfB_mk {r u : List Int} (h1 : permB r = true) (h2 : permB u = true) (h3 : r.length = u.length) (h4 : 0 < r.length) : surfB r u = ((reach (N r) (N u) 0).length == r.length) := by
  unfold surfB
  simp [h1, h2, h3, h4]
  intro _
  omega
theorem spec_trans (r u : List Int) : Ev (fun k => spec_IsTransitive.f k r u) (surfB r u) := by
  unfold spec_IsTransitive.f
  refine Ev.bind (spec_permOk r) ?_
  by_cases h1 : permB r = true
  · simp only [h1, if_true]
    refine Ev.bind (spec_permOk u) ?_
    by_cases h2 : permB u = true
    · simp only [h2, if_true]
      by_cases h3 : (r.length : Int) = (u.length : Int)
      · have h3' : r.length = u.length := by omega
        by_cases h4 : (r.length : Int) > 0
        · have h4' : 0 < r.length := by omega
          rw [surfB_mk h1 h2 h3' h4']
          obtain ⟨p, rfl, a1, a2⟩ := PI_nat (of_decide_eq_true h1)
          obtain ⟨q, rfl, b1, b2⟩ := PI_nat (of_decide_eq_true h2)
          rw [I_len, I_len] at h3'
          rw [I_len] at h4'
          have := reach_ev a1 b1 h3'.symm a2 0 h4'
          simp only [h3, h4, if_true]
          rw [h3] at h4
          simp only [h4, if_true]
          refine Ev.bind this ?_
          rw [N_I, N_I]
          have e : (((I (reach p q 0)).length : Int) == ((I q).length : Int)) = ((reach p q 0).length == (I p).length) := by
            rw [I_len, I_len, I_len, Bool.eq_iff_iff, beq_iff_eq, beq_iff_eq]
            omega
          rw [← h3] at e
          simp only [h3] at e
          rw [← e]
          exact Ev.now _
        · simp only [h3, if_true]
          rw [h3] at h4
          simp only [h4, if_false]
          have : surfB r u = false := by
            unfold surfB
            have : ¬ 0 < r.length := by omega
            simp [this]
          rw [this]
          exact Ev.now _
      · simp only [h3, if_false]
        rw [len_ne_false (by omega)]
        exact Ev.now _
    · have h2' := Bool.eq_false_iff.mpr h2
      simp only [h2', Bool.false_eq_true, if_false]
      have : surfB r u = false := by unfold surfB; simp [h2']
      rw [this]
      exact Ev.now _
  · have h1' := Bool.eq_false_iff.mpr h1
    simp only [h1', Bool.false_eq_true, if_false]
    have : surfB r u = false := by unfold surfB; simp [h1']
    rw [this]
    exact Ev.now _
theorem spec_surf (r u : List Int) : Ev (fun k => spec_SurfaceOk.f k r u) (surfB r u) := by
  unfold spec_SurfaceOk.f
  exact Ev.bind (spec_trans r u) (Ev.now _)
def Marks (n : Nat) (s : List Bool) (out : List Nat) : Prop := s.length = n ∧ ∀ x, x < n → (s.getD x false = true ↔ x ∈ out)
theorem Marks.add {n : Nat} {s : List Bool} {out : List Nat} {x : Nat} (h : Marks n s out) (hx : x < n) : Marks n (s.set x true) (out ++ [x]) := by
  refine ⟨by rw [List.length_set]; exact h.1, fun y hy => ?_⟩
  rw [getD_set s x y (by rw [h.1]; exact hx)]
  by_cases e : x = y
  · subst e
    simp
  · rw [if_neg e, h.2 y hy]
    have : ¬ y = x := fun k => e k.symm
    simp [this]
theorem trans_one (p q out pr : List Nat) (s : List Bool) (a : Nat) (j : Nat) (hj : j < pr.length) (hp : pr.length ≤ 2) (hl : out.length ≤ 1000) (hm : Marks p.length s out) (hx : g pr j < p.length) (r : Bool)
    (H : ∀ s', Marks p.length s' (st1 out (g pr j)) → Ev (fun k => impl_IsTransitive.l1 k (I p) (I q) s' (I (st1 out (g pr j))) (a : Int) (I pr) (pr.length : Int) ((j + 1 : Nat) : Int)) r) :
    Ev (fun k => impl_IsTransitive.l1 k (I p) (I q) s (I out) (a : Int) (I pr) (pr.length : Int) (j : Int)) r := by
  refine ev_succ ?_
  have h1 : (j : Int) < (pr.length : Int) := by omega
  have h2 : (0 : Int) ≤ (j : Int) := by omega
  have h3 := w64s j (by omega)
  have h4 : (I out).length < 17592186044416 := by rw [I_len]; omega
  have h5 : (0 : Int) ≤ ((g pr j : Nat) : Int) := by omega
  have h6 : ((g pr j : Nat) : Int) < (s.length : Int) := by rw [hm.1]; omega
  simp only [impl_IsTransitive.l1, h1, h2, h3, h4, h5, h6, rdI, I_len', rdOf_nat, if_true, Int.toNat_natCast]
  by_cases hin : g pr j ∈ out
  · have hs := (hm.2 _ hx).mpr hin
    have e : st1 out (g pr j) = out := by unfold st1; rw [if_pos hin]
    have := H s (by rw [e]; exact hm)
    rw [e] at this
    simp only [hs, if_true]
    exact this
  · have hs : s.getD (g pr j) false = false := Bool.eq_false_iff.mpr (fun h => hin ((hm.2 _ hx).mp h))
    have e : st1 out (g pr j) = out ++ [g pr j] := by unfold st1; rw [if_neg hin]
    have := H (s.set (g pr j) true) (by rw [e]; exact hm.add hx)
    rw [e, ← I_snoc] at this
    simp only [hs, Bool.false_eq_true, if_false]
    exact this
theorem trans_loop {p q : List Nat} (hp : IsP p) (hq : IsP q) (hl : q.length = p.length) (h24 : p.length ≤ 24) (f : Nat) : ∀ (a : Nat) (out : List Nat) (s : List Bool), RInv p.length out → Marks p.length s out → a ≤ out.length → p.length < f + a →
    Ev (fun k => impl_IsTransitive.l0 k (I p) (I q) s (I out) (a : Int)) ((bfs p q f a out).length == p.length) := by
  induction f with
  | zero =>
    intro a out s hr hm ha hf
    have := hr.le
    omega
  | succ f ih =>
    intro a out s hr hm ha hf
    have hle := hr.le
    refine ev_succ ?_
    by_cases h : a < out.length
    · have h1 : (a : Int) < (out.length : Int) := by omega
      have h2 : (0 : Int) ≤ (a : Int) := by omega
      have hx := hr.g h
      have h3 : ((g out a : Nat) : Int) < (p.length : Int) := by omega
      have h4 : (0 : Int) ≤ ((g out a : Nat) : Int) := by omega
      have h5 : ((g out a : Nat) : Int) < (q.length : Int) := by omega
      have h6 := w64s a (by omega)
      simp only [impl_IsTransitive.l0, h1, h2, h3, h4, h5, rdI, I_len', if_true, Option.bind_some, I_pair]
      have hg1 := g_lt hp hx
      have hg2 : g q (g out a) < p.length := by have := g_lt hq (i := g out a) (by omega); omega
      have r1 := hr.st hg1
      have r2 := r1.st hg2
      have hb : bfs p q (f + 1) a out = bfs p q f (a + 1) (st1 (st1 out (g p (g out a))) (g q (g out a))) := by
        rw [bfs, if_pos h]
      rw [hb]
      refine trans_one p q out [g p (g out a), g q (g out a)] s a 0 (by simp) (by simp) (by omega) hm hg1 _ (fun s1 hm1 => ?_)
      refine trans_one p q _ [g p (g out a), g q (g out a)] s1 a 1 (by simp) (by simp) (by have := r1.le; simp only [g, List.getD_cons_zero] at this ⊢; omega) hm1 hg2 _ (fun s2 hm2 => ?_)
      refine ev_succ ?_
      have h7 : ¬ (((1 + 1 : Nat) : Int) < (([g p (g out a), g q (g out a)] : List Nat).length : Int)) := by simp
      simp only [impl_IsTransitive.l1, h7, h6, if_false]
      exact ih (a + 1) _ s2 r2 hm2 (Nat.le_trans (by omega : a + 1 ≤ out.length) (Nat.le_trans (st1_len _ _) (st1_len _ _))) (by omega)
    · have h1 : ¬ ((a : Int) < (out.length : Int)) := by omega
      have hb : bfs p q (f + 1) a out = out := by rw [bfs, if_neg h]
      rw [hb]
      simp only [impl_IsTransitive.l0, h1, I_len', if_false]
      have e : ((out.length : Int) == (p.length : Int)) = (out.length == p.length) := by
        rw [Bool.eq_iff_iff, beq_iff_eq, beq_iff_eq]
        omega
      rw [e]
      exact Ev.now _
theorem j0_true (r u : List Int) : Ev (fun k => impl_IsTransitive.j0 k r u true) false := by
  refine ev_succ ?_
  simp only [impl_IsTransitive.j0, if_true]
  exact Ev.now _
theorem impl_trans (r u : List Int) : Ev (fun k => impl_IsTransitive.f k r u) (surfB r u) := by
  unfold impl_IsTransitive.f
  refine Ev.bind (impl_permOk r) ?_
  by_cases h1 : permB r = true
  · simp only [h1, if_true]
    refine Ev.bind (impl_permOk u) ?_
    by_cases h2 : permB u = true
    · simp only [h2, if_true]
      by_cases h3 : (r.length : Int) = (u.length : Int)
      · have h3' : r.length = u.length := by omega
        simp only [h3, if_true]
        by_cases h4 : 0 < r.length
        · rw [surfB_mk h1 h2 h3' h4]
          obtain ⟨p, rfl, a1, a2⟩ := PI_nat (of_decide_eq_true h1)
          obtain ⟨q, rfl, b1, b2⟩ := PI_nat (of_decide_eq_true h2)
          rw [I_len, I_len] at h3'
          rw [I_len] at h4
          refine ev_succ ?_
          have e0 : ((q.length : Int) == 0) = false := by rw [beq_eq_false_iff_ne]; omega
          have e1 : (0 : Int) ≤ (p.length : Int) := by omega
          have e2 : ((p.length : Int)).toNat ≤ 281474976710656 := by omega
          have e3 : (0 : Int) < ((List.replicate p.length false).length : Int) := by rw [List.length_replicate]; omega
          simp only [impl_IsTransitive.j0, e0, I_len', e1, e2, Bool.false_eq_true, if_true, if_false, Option.bind_some, Int.toNat_natCast, e3]
          simp only [Int.toNat_natCast] at e2
          simp only [e2, if_true]
          rw [N_I, N_I, I_len]
          refine trans_loop a1 b1 h3'.symm a2 (p.length + 1) 0 [0] _ ⟨by simp, by simpa using h4⟩ ?_ (by simp) (by omega)
          refine ⟨by simp, fun x hx => ?_⟩
          have : (0 : Int).toNat = 0 := rfl
          rw [this, getD_set _ 0 x (by simp; omega)]
          by_cases e : 0 = x
          · subst e
            simp
          · rw [if_neg e]
            have h0 : ¬ x = 0 := fun h => e h.symm
            have : (List.replicate p.length false).getD x false = false := by
              rw [List.getD_eq_getElem?_getD, List.getElem?_replicate]
              simp [hx]
            rw [this]
            simp [h0]
        · have e0 : ((u.length : Int) == 0) = true := by rw [beq_iff_eq]; omega
          have : surfB r u = false := by unfold surfB; simp [h4]
          rw [this]
          simp only [e0]
          exact j0_true r u
      · simp only [h3, if_false]
        rw [len_ne_false (by omega)]
        exact j0_true r u
    · have h2' := Bool.eq_false_iff.mpr h2
      simp only [h2', Bool.false_eq_true, if_false]
      have : surfB r u = false := by unfold surfB; simp [h2']
      rw [this]
      exact j0_true r u
  · have h1' := Bool.eq_false_iff.mpr h1
    simp only [h1', Bool.false_eq_true, if_false]
    have : surfB r u = false := by unfold surfB; simp [h1']
    rw [this]
    exact j0_true r u
theorem impl_surf (r u : List Int) : Ev (fun k => impl_SurfaceOk.f k r u) (surfB r u) := by
  unfold impl_SurfaceOk.f
  exact Ev.bind (impl_trans r u) (Ev.now _)
end Go.Proofs.Ytbdnellgioimbaa.M
end
section
/- What every law does with its arguments; inverses. No conditions. -/
namespace Go.Proofs.Ytbdnellgioimbaa.M
set_option linter.unusedVariables false
set_option linter.unusedSimpArgs false
open Go.RowKit Go.Proofs.YtbdnellgioimbaaW.PrintWords Go.Proofs.YtbdnellgioimbaaW.PrintLast Go.Proofs.YtbdnellgioimbaaW.PrintMore Go.Proofs.Ytbdnellgioimbaa.A
theorem inv_of {p c : List Nat} (hp : IsP p) (hc : c.length = p.length) (h : ∀ j, j < p.length → g c (g p j) = j) : c = inv p := by
  refine ext_g (by rw [inv_len, hc]) (fun x hx => ?_)
  rw [hc] at hx
  rw [g_inv hx]
  have := h (ix p x) (ix_lt hp hx)
  rw [g_ix hp hx] at this
  exact this
theorem inv_step {p c : List Nat} (hp : IsP p) {i : Nat} (hi : i < p.length) (hc : c.length = p.length) (h : ∀ j, j < i → g c (g p j) = j) : ∀ j, j < i + 1 → g (c.set (g p i) i) (g p j) = j := by
  intro j hj
  rw [g_set (by rw [hc]; exact g_lt hp hi)]
  by_cases e : j = i
  · subst e
    simp
  · rw [if_neg (fun k => e (g_inj hp (by omega) hi k.symm))]
    exact h j (by omega)
theorem spec_inv {p : List Nat} (hp : IsP p) (h24 : p.length ≤ 24) : Ev (fun k => spec_l02Inverse.f k (I p)) (I (inv p)) := by
  unfold spec_l02Inverse.f
  have H : ∀ (d i : Nat) (c : List Nat), i + d = p.length → c.length = p.length → (∀ j, j < i → g c (g p j) = j) → Ev (fun k => spec_l02Inverse.l0 k (I c) (I p) (p.length : Int) (i : Int)) (I (inv p)) := by
    intro d
    induction d with
    | zero =>
      intro i c h hc hx
      refine ev_succ ?_
      have h1 : ¬ ((i : Int) < (p.length : Int)) := by omega
      rw [← inv_of hp hc (fun j hj => hx j (by omega))]
      simp only [spec_l02Inverse.l0, h1, if_false]
      exact Ev.now _
    | succ d ih =>
      intro i c h hc hx
      refine ev_succ ?_
      have hi : i < p.length := by omega
      have h1 : (i : Int) < (p.length : Int) := by omega
      have h2 : (0 : Int) ≤ (i : Int) := by omega
      have h3 := w64s i (by omega)
      have h4 : (0 : Int) ≤ ((g p i : Nat) : Int) := by omega
      have h5 : ((g p i : Nat) : Int) < (c.length : Int) := by have := g_lt hp hi; omega
      simp only [spec_l02Inverse.l0, h1, h2, h3, h4, h5, rdI, I_len', I_set, if_true, Int.toNat_natCast]
      exact ih (i + 1) _ (by omega) (by rw [List.length_set]; exact hc) (inv_step hp hi hc hx)
  have h1 : (0 : Int) ≤ (p.length : Int) := by omega
  have h2 : p.length ≤ 35184372088832 := by omega
  simp only [I_len', h1, h2, if_true, Int.toNat_natCast]
  have := H p.length 0 (List.replicate p.length 0) (by omega) (by simp) (fun j hj => by omega)
  rw [I_rep] at this
  exact this
theorem impl_inv {p : List Nat} (hp : IsP p) (h24 : p.length ≤ 24) : Ev (fun k => impl_InversePerm.f k (I p)) (I (inv p)) := by
  unfold impl_InversePerm.f
  have H : ∀ (d i : Nat) (c : List Nat), i + d = p.length → c.length = p.length → (∀ j, j < i → g c (g p j) = j) → Ev (fun k => impl_InversePerm.l0 k (I c) (I p) (p.length : Int) (i : Int)) (I (inv p)) := by
    intro d
    induction d with
    | zero =>
      intro i c h hc hx
      refine ev_succ ?_
      have h1 : ¬ ((i : Int) < (p.length : Int)) := by omega
      rw [← inv_of hp hc (fun j hj => hx j (by omega))]
      simp only [impl_InversePerm.l0, h1, if_false]
      exact Ev.now _
    | succ d ih =>
      intro i c h hc hx
      refine ev_succ ?_
      have hi : i < p.length := by omega
      have h1 : (i : Int) < (p.length : Int) := by omega
      have h2 : (0 : Int) ≤ (i : Int) := by omega
      have h3 := w64s i (by omega)
      have h4 : (0 : Int) ≤ ((g p i : Nat) : Int) := by omega
      have h5 : ((g p i : Nat) : Int) < (c.length : Int) := by have := g_lt hp hi; omega
      simp only [impl_InversePerm.l0, h1, h2, h3, h4, h5, rdI, I_len', I_set, if_true, Int.toNat_natCast]
      exact ih (i + 1) _ (by omega) (by rw [List.length_set]; exact hc) (inv_step hp hi hc hx)
  refine Ev.bind (impl_permOk (I p)) ?_
  have h0 : permB (I p) = true := permB_I.mpr ⟨hp, h24⟩
  have h1 : (0 : Int) ≤ (p.length : Int) := by omega
  have h2 : p.length ≤ 35184372088832 := by omega
  simp only [h0, I_len', h1, h2, if_true, Int.toNat_natCast]
  have := H p.length 0 (List.replicate p.length 0) (by omega) (by simp) (fun j hj => by omega)
  rw [I_rep] at this
  exact this
end Go.Proofs.Ytbdnellgioimbaa.M
end
section
/- Cycles: the program and the reference answer alike. No conditions. -/
namespace Go.Proofs.Ytbdnellgioimbaa.M
set_option linter.unusedVariables false
set_option linter.unusedSimpArgs false
open Go.RowKit Go.Proofs.YtbdnellgioimbaaW.PrintWords Go.Proofs.YtbdnellgioimbaaW.PrintLast Go.Proofs.YtbdnellgioimbaaW.PrintMore Go.Proofs.Ytbdnellgioimbaa.A
def I2 (l : List (List Nat)) : List (List Int) := l.map I
theorem I2_len (l : List (List Nat)) : (I2 l).length = l.length := by simp [I2]
theorem I2_snoc (l : List (List Nat)) (c : List Nat) : I2 l ++ [I c] = I2 (l ++ [c]) := by simp [I2]
theorem cyc_len (p : List Nat) (i : Nat) : (cyc p i).length ≤ i := by
  induction i with
  | zero => simp [cyc]
  | succ i ih =>
    unfold cyc
    split
    · omega
    · simp
      omega
theorem orbTo_len (p : List Nat) (s m : Nat) : (orbTo p s m).length = m := by simp [orbTo]
theorem mem_flat {l : List (List Nat)} {x : Nat} : x ∈ l.flatten ↔ ∃ c ∈ l, x ∈ c := by simp
theorem cyc_next {p : List Nat} (hp : IsP p) {i m : Nat} (hi : i < p.length) (hnew : ¬ ∃ c ∈ cyc p i, i ∈ c) (hm : m < per p i) : itr p m i ∉ (cyc p i).flatten ++ orbTo p i m := by
  intro h
  rcases List.mem_append.mp h with h | h
  · exact cyc_new hp hi hnew ((mem_orb hp hi).mpr ⟨m, rfl⟩) (mem_flat.mp h)
  · by_cases e : m = 0
    · subst e
      simp [orbTo] at h
    · exact orb_close hp hi hm (by omega) h
theorem cyc_shut {p : List Nat} (hp : IsP p) {i : Nat} (hi : i < p.length) : itr p (per p i) i ∈ (cyc p i).flatten ++ orbTo p i (per p i) := by
  rw [(per_spec hp hi).1]
  exact List.mem_append.mpr (.inr (orb_self hp hi))
theorem cyc_succ_new {p : List Nat} {i : Nat} (hnew : ¬ ∃ c ∈ cyc p i, i ∈ c) : cyc p (i + 1) = cyc p i ++ [orb p i] := by
  rw [cyc, if_neg hnew]
theorem cyc_succ_old {p : List Nat} {i : Nat} (h : ∃ c ∈ cyc p i, i ∈ c) : cyc p (i + 1) = cyc p i := by
  rw [cyc, if_pos h]
theorem marks_rep (n : Nat) : Marks n (List.replicate n false) ([] : List Nat) := by
  refine ⟨by simp, fun x hx => ?_⟩
  rw [List.getD_eq_getElem?_getD, List.getElem?_replicate]
  simp [hx]
theorem impl_cycles {p : List Nat} (hp : IsP p) (h24 : p.length ≤ 24) : Ev (fun k => impl_CyclesOf.f k (I p)) (I2 (cycles p)) := by
  unfold impl_CyclesOf.f
  refine Ev.bind (impl_permOk (I p)) ?_
  have h0 : permB (I p) = true := permB_I.mpr ⟨hp, h24⟩
  have h1 : (0 : Int) ≤ (p.length : Int) := by omega
  have h2 : p.length ≤ 281474976710656 := by omega
  simp only [h0, I_len', h1, h2, if_true, Int.toNat_natCast]
  have H : ∀ (d i : Nat) (s : List Bool), i + d = p.length → Marks p.length s (cyc p i).flatten → Ev (fun k => impl_CyclesOf.l0 k (I p) s (I2 (cyc p i)) (p.length : Int) (i : Int)) (I2 (cycles p)) := by
    intro d
    induction d with
    | zero =>
      intro i s h hm
      obtain rfl : i = p.length := by omega
      refine ev_succ ?_
      have h1 : ¬ ((p.length : Int) < (p.length : Int)) := by omega
      simp only [impl_CyclesOf.l0, h1, if_false]
      exact Ev.now _
    | succ d ih =>
      intro i s h hm
      have hi : i < p.length := by omega
      have c1 : (i : Int) < (p.length : Int) := by omega
      have c2 : (0 : Int) ≤ (i : Int) := by omega
      have c3 : (i : Int) < (s.length : Int) := by have := hm.1; omega
      have h3 := w64s i (by omega)
      refine ev_succ ?_
      by_cases hs : s.getD i false = true
      · have ho := mem_flat.mp ((hm.2 i hi).mp hs)
        simp only [impl_CyclesOf.l0, c1, c2, c3, rdOf_nat, hs, if_true, h3]
        have := ih (i + 1) s (by omega) (by rw [cyc_succ_old ho]; exact hm)
        rw [cyc_succ_old ho] at this
        exact this
      · have hnew : ¬ ∃ c ∈ cyc p i, i ∈ c := fun h => hs ((hm.2 i hi).mpr (mem_flat.mpr h))
        simp only [impl_CyclesOf.l0, c1, c2, c3, rdOf_nat, hs, if_true, if_false]
        have G : ∀ (e m : Nat) (t : List Bool), m + e = per p i → Marks p.length t ((cyc p i).flatten ++ orbTo p i m) → Ev (fun k => impl_CyclesOf.l1 k (I p) t (I2 (cyc p i)) (I (orbTo p i m)) ((itr p m i : Nat) : Int) (p.length : Int) (i : Int)) (I2 (cycles p)) := by
          intro e
          induction e with
          | zero =>
            intro m t he ht
            obtain rfl : m = per p i := by omega
            refine ev_succ ?_
            have hx := itr_lt hp (per p i) hi
            have d1 : (0 : Int) ≤ ((itr p (per p i) i : Nat) : Int) := by omega
            have d2 : ((itr p (per p i) i : Nat) : Int) < (t.length : Int) := by have := ht.1; omega
            have d3 := (ht.2 _ hx).mpr (cyc_shut hp hi)
            have d4 : (I2 (cyc p i)).length < 5864062014805 := by rw [I2_len]; have := cyc_len p i; omega
            simp only [impl_CyclesOf.l1, d1, d2, rdOf_nat, d3, d4, if_true, h3]
            have := ih (i + 1) t (by omega) (by rw [cyc_succ_new hnew]; simpa [orb] using ht)
            rw [cyc_succ_new hnew, ← I2_snoc] at this
            exact this
          | succ e ihe =>
            intro m t he ht
            refine ev_succ ?_
            have hx := itr_lt hp m hi
            have hn := cyc_next hp hi hnew (m := m) (by omega)
            have d1 : (0 : Int) ≤ ((itr p m i : Nat) : Int) := by omega
            have d2 : ((itr p m i : Nat) : Int) < (t.length : Int) := by have := ht.1; omega
            have d3 : ¬ t.getD (itr p m i) false = true := fun k => hn ((ht.2 _ hx).mp k)
            have d4 : (I (orbTo p i m)).length < 17592186044416 := by rw [I_len, orbTo_len]; have := (per_spec hp hi).2.1; omega
            have d5 : ((itr p m i : Nat) : Int) < (p.length : Int) := by omega
            simp only [impl_CyclesOf.l1, d1, d2, rdOf_nat, d3, d4, d5, I_len', if_true, if_false, rdI, Int.toNat_natCast, I_snoc, orbTo_snoc]
            have := ihe (m + 1) (t.set (itr p m i) true) (by omega) (by
              have := ht.add hx
              rw [List.append_assoc, orbTo_snoc] at this
              exact this)
            exact this
        have := G (per p i) 0 s (by omega) (by simpa [orbTo] using hm)
        exact this
  exact H p.length 0 _ (by omega) (by simpa [cyc] using marks_rep p.length)
end Go.Proofs.Ytbdnellgioimbaa.M
end
section
/- Marks on lists of lists. No conditions. -/
namespace Go.Proofs.Ytbdnellgioimbaa.M
set_option linter.unusedVariables false
set_option linter.unusedSimpArgs false
open Go.RowKit Go.Proofs.YtbdnellgioimbaaW.PrintWords Go.Proofs.YtbdnellgioimbaaW.PrintLast Go.Proofs.YtbdnellgioimbaaW.PrintMore Go.Proofs.Ytbdnellgioimbaa.A
def totL (xs : List (List Int)) : Nat := (xs.map List.length).sum
theorem getD_mid {α : Type} (p : List α) (x : α) (xs : List α) (d : α) : (p ++ x :: xs).getD p.length d = x := by
  rw [List.getD_eq_getElem?_getD, List.getElem?_append_right (Nat.le_refl _)]
  simp
theorem set_mid {α : Type} (p : List α) (x y : α) (xs : List α) : (p ++ x :: xs).set p.length y = p ++ y :: xs := by
  rw [List.set_append_right _ _ (Nat.le_refl _)]
  simp
end Go.Proofs.Ytbdnellgioimbaa.M
end
section
/- Rows: the program and the reference answer alike. No conditions. -/
namespace Go.Proofs.Ytbdnellgioimbaa.M
set_option linter.unusedVariables false
set_option linter.unusedSimpArgs false
open Go.RowKit Go.Proofs.YtbdnellgioimbaaW.PrintWords Go.Proofs.YtbdnellgioimbaaW.PrintLast Go.Proofs.YtbdnellgioimbaaW.PrintMore Go.Proofs.Ytbdnellgioimbaa.A
theorem cyc_flat_lt {p : List Nat} (hp : IsP p) : ∀ i, i ≤ p.length → (∀ x ∈ (cyc p i).flatten, x < p.length) ∧ (cyc p i).flatten.Nodup := by
  intro i
  induction i with
  | zero => intro _; simp [cyc]
  | succ i ih =>
    intro hi
    obtain ⟨h1, h2⟩ := ih (by omega)
    by_cases h : ∃ c ∈ cyc p i, i ∈ c
    · rw [cyc_succ_old h]
      exact ⟨h1, h2⟩
    · rw [cyc_succ_new h]
      simp only [List.flatten_append, List.flatten_cons, List.flatten_nil, List.append_nil]
      have hi' : i < p.length := by omega
      have ho : (orb p i).Nodup := by
        unfold orb orbTo
        refine List.pairwise_map.mpr ?_
        refine List.pairwise_iff_getElem.mpr ?_
        intro a b ha hb hab
        rw [List.length_range] at ha hb
        rw [List.getElem_range, List.getElem_range]
        intro e
        have hb0 : b < per p i := hb
        exact orb_close hp hi' hb0 (by omega) (mem_orbTo.mpr ⟨a, hab, e⟩)
      refine ⟨fun x hx => ?_, List.nodup_append.mpr ⟨h2, ho, fun a ha b hb e => ?_⟩⟩
      · rcases List.mem_append.mp hx with hx | hx
        · exact h1 x hx
        · exact orb_lt hp hi' hx
      · subst e
        exact cyc_new hp hi' h hb (mem_flat.mp ha)
theorem cycles_len {p : List Nat} (h24 : p.length ≤ 24) : (cycles p).length ≤ 24 := Nat.le_trans (cyc_len p p.length) h24
theorem cycle_len {p : List Nat} (hp : IsP p) (h24 : p.length ≤ 24) : ∀ c ∈ cycles p, c.length ≤ 24 := by
  intro c hc
  obtain ⟨s, hs, rfl⟩ := cyc_form p p.length c hc
  unfold orb
  rw [orbTo_len]
  have := (per_spec hp hs).2.1
  omega
structure SmallSS (l : List (List Int)) : Prop where
  n : l.length ≤ 24
  m : ∀ x ∈ l, x.length ≤ 24
  t : totL l ≤ 1000
end Go.Proofs.Ytbdnellgioimbaa.M
end
section
/- One round about a corner; first places in lists. No conditions. -/
namespace Go.Proofs.Ytbdnellgioimbaa.M
set_option linter.unusedVariables false
set_option linter.unusedSimpArgs false
open Go.RowKit Go.Proofs.YtbdnellgioimbaaW.PrintWords Go.Proofs.YtbdnellgioimbaaW.PrintLast Go.Proofs.YtbdnellgioimbaaW.PrintMore Go.Proofs.Ytbdnellgioimbaa.A
theorem impl_then {p q : List Nat} (hp : IsP p) (hq : IsP q) (hl : p.length = q.length) (h24 : p.length ≤ 24) : Ev (fun k => impl_ThenPerm.f k (I p) (I q)) (I (thn p q)) := by
  unfold impl_ThenPerm.f
  refine Ev.bind (impl_permOk (I p)) ?_
  have e1 : permB (I p) = true := permB_I.mpr ⟨hp, h24⟩
  have e2 : permB (I q) = true := permB_I.mpr ⟨hq, by omega⟩
  simp only [e1, if_true]
  refine Ev.bind (impl_permOk (I q)) ?_
  have e3 : ((p.length : Int) != (q.length : Int)) = false := by simp [hl]
  simp only [e2, if_true, I_len', e3]
  refine ev_succ ?_
  have h1 : (0 : Int) ≤ (p.length : Int) := by omega
  have h2 : p.length ≤ 35184372088832 := by omega
  simp only [impl_ThenPerm.j0, Bool.false_eq_true, if_false, I_len', h1, h2, if_true, Int.toNat_natCast]
  have H : ∀ (d i : Nat) (c : List Nat), i + d = p.length → c.length = p.length → (∀ j, j < i → g c j = g q (g p j)) → Ev (fun k => impl_ThenPerm.l0 k (I q) (I c) (I p) (p.length : Int) (i : Int)) (I (thn p q)) := by
    intro d
    induction d with
    | zero =>
      intro i c h hc hx
      refine ev_succ ?_
      have h1 : ¬ ((i : Int) < (p.length : Int)) := by omega
      have e : thn p q = c := by
        refine (eq_tab hc (fun j hj => hx j (by omega))).symm
      simp only [impl_ThenPerm.l0, h1, if_false]
      rw [e]
      exact Ev.now _
    | succ d ih =>
      intro i c h hc hx
      refine ev_succ ?_
      have hi : i < p.length := by omega
      have gp := g_lt hp hi
      have c1 : (i : Int) < (p.length : Int) := by omega
      have c2 : (0 : Int) ≤ (i : Int) := by omega
      have c3 : (0 : Int) ≤ ((g p i : Nat) : Int) := by omega
      have c4 : ((g p i : Nat) : Int) < (q.length : Int) := by omega
      have c5 : (i : Int) < (c.length : Int) := by omega
      have h3 := w64s i (by omega)
      simp only [impl_ThenPerm.l0, c1, c2, c3, c4, c5, h3, rdI, I_len', I_set, if_true, Int.toNat_natCast]
      refine ih (i + 1) _ (by omega) (by rw [List.length_set]; exact hc) (fun j hj => ?_)
      rw [g_set (by omega)]
      by_cases e : i = j
      · subst e
        simp
      · rw [if_neg e]
        exact hx j (by omega)
  have := H p.length 0 (List.replicate p.length 0) (by omega) (by simp) (fun j hj => by omega)
  rw [I_rep] at this
  exact this
def arnd (r u : List Nat) : List Nat := thn (thn r u) (thn (inv r) (inv u))
theorem arnd_len (r u : List Nat) : (arnd r u).length = r.length := by unfold arnd; rw [thn_len, thn_len]
theorem g_arnd {r u : List Nat} (hs : Sf r u) {x : Nat} (hx : x < r.length) : g (arnd r u) x = ix u (ix r (g u (g r x))) := by
  have h1 := g_lt hs.pr hx
  have h2 := g_lt hs.pu (i := g r x) (by rw [hs.eq]; exact h1)
  have h2' : g u (g r x) < r.length := by rw [← hs.eq]; exact h2
  have h3 := ix_lt hs.pr h2'
  unfold arnd
  rw [g_thn (by rw [thn_len]; exact hx), g_thn hx, g_thn (by rw [inv_len]; exact h2'), g_inv h2', g_inv (by rw [hs.eq]; exact h3)]
theorem impl_around {r u : List Nat} (hs : Sf r u) : Ev (fun k => impl_AroundOf.f k (I r) (I u)) (I (arnd r u)) := by
  have hle := hs.le
  have heq := hs.eq
  unfold impl_AroundOf.f
  refine Ev.bind (impl_surf _ _) ?_
  rw [surfB_I.mpr hs]
  simp only [if_true]
  refine Ev.bind (impl_then hs.pr hs.pu heq.symm hs.le) ?_
  refine Ev.bind (impl_inv hs.pr hs.le) (Ev.bind (impl_inv hs.pu (by omega)) ?_)
  refine Ev.bind (impl_then (isP_inv hs.pr) (isP_inv hs.pu) (by rw [inv_len, inv_len, heq]) (by rw [inv_len]; omega)) ?_
  refine Ev.bind (impl_then (isP_thn hs.pr hs.pu heq.symm) (isP_thn (isP_inv hs.pr) (isP_inv hs.pu) (by rw [inv_len, inv_len, heq])) (by rw [thn_len, thn_len, inv_len]) (by rw [thn_len]; omega)) ?_
  exact Ev.now _
theorem first_split {α : Type} (P : α → Prop) : ∀ l : List α, (∃ c ∈ l, P c) → ∃ a c b, l = a ++ c :: b ∧ P c ∧ ∀ x ∈ a, ¬ P x := by
  intro l
  induction l with
  | nil => intro ⟨c, h, _⟩; simp at h
  | cons x l ih =>
    intro ⟨c, h, hc⟩
    by_cases hx : P x
    · exact ⟨[], x, l, rfl, hx, by simp⟩
    · obtain ⟨a, c', b, e, h1, h2⟩ := ih (by
        rcases List.mem_cons.mp h with rfl | h
        · exact absurd hc hx
        · exact ⟨c, h, hc⟩)
      refine ⟨x :: a, c', b, by rw [e]; rfl, h1, fun y hy => ?_⟩
      rcases List.mem_cons.mp hy with rfl | hy
      · exact hx
      · exact h2 y hy
theorem rdL_mid (a : List (List Nat)) (c : List Nat) (b : List (List Nat)) : rd_L1 (I2 (a ++ c :: b)) (a.length : Int) = I c := by
  unfold rd_L1 I2
  rw [Int.toNat_natCast, List.map_append, List.map_cons, ← List.length_map (f := I)]
  exact getD_mid _ _ _ _
theorem rdL_I2 (l : List (List Nat)) (i : Nat) (h : i < l.length) : rd_L1 (I2 l) (i : Int) = I (l[i]) := by
  unfold rd_L1 I2
  rw [Int.toNat_natCast, List.getD_eq_getElem?_getD, List.getElem?_map, List.getElem?_eq_getElem h]
  rfl
theorem cyc_least {p : List Nat} (hp : IsP p) : ∀ i, i ≤ p.length → ∀ c ∈ cyc p i, ∃ s, s < i ∧ c = orb p s ∧ ∀ y ∈ c, s ≤ y := by
  intro i
  induction i with
  | zero => intro _ c h; simp [cyc] at h
  | succ i ih =>
    intro hi c hc
    by_cases h : ∃ c ∈ cyc p i, i ∈ c
    · rw [cyc_succ_old h] at hc
      obtain ⟨s, h1, h2, h3⟩ := ih (by omega) c hc
      exact ⟨s, by omega, h2, h3⟩
    · rw [cyc_succ_new h] at hc
      rcases List.mem_append.mp hc with hc | hc
      · obtain ⟨s, h1, h2, h3⟩ := ih (by omega) c hc
        exact ⟨s, by omega, h2, h3⟩
      · have e : c = orb p i := by simpa using hc
        subst e
        refine ⟨i, by omega, rfl, fun y hy => ?_⟩
        apply Classical.byContradiction
        intro hlt
        obtain ⟨c', hc', hm⟩ := cyc_all hp i (by omega) y (by omega)
        exact cyc_new hp (by omega) h hy ⟨c', hc', hm⟩
theorem orb_cons (p : List Nat) (s : Nat) : ∃ t, orb p s = s :: t := by
  have h := per_pos p s
  unfold orb orbTo
  obtain ⟨m, hm⟩ : ∃ m, per p s = m + 1 := ⟨per p s - 1, by omega⟩
  rw [hm, List.range_succ_eq_map]
  exact ⟨_, rfl⟩
theorem cycle_form {p : List Nat} (hp : IsP p) {c : List Nat} (hc : c ∈ cycles p) : ∃ s t, s < p.length ∧ c = s :: t ∧ c = orb p s ∧ ∀ y ∈ c, s ≤ y := by
  obtain ⟨s, h1, h2, h3⟩ := cyc_least hp p.length (Nat.le_refl _) c hc
  obtain ⟨t, ht⟩ := orb_cons p s
  exact ⟨s, t, h1, by rw [h2, ht], h2, h3⟩
theorem cycle_same {p : List Nat} (hp : IsP p) {c : List Nat} (hc : c ∈ cycles p) {x y : Nat} (hx : x < p.length) (hy : y ∈ orb p x) : x ∈ c ↔ y ∈ c := by
  obtain ⟨s, _, hs, _, e, _⟩ := cycle_form hp hc
  rw [e]
  constructor
  · intro h
    exact orb_trans hp hs h hy
  · intro h
    exact orb_trans hp hs h (orb_sym hp hx hy)
end Go.Proofs.Ytbdnellgioimbaa.M
end
section
namespace Go.Proofs.Ytbdnellgioimbaa.A
open Go.RowKit Go.Proofs.YtbdnellgioimbaaW.PrintWords Go.Proofs.YtbdnellgioimbaaW.PrintLast Go.Proofs.YtbdnellgioimbaaW.PrintMore
attribute [local go_sem] max2_int min2_int max_two min_two max_three min_three max_four min_four
set_option linter.unusedVariables false
set_option linter.unusedSimpArgs false
def spec_SlopeOk.f (k : Nat) (a0 : Int) (a1 : Int) : Option (Bool) := (spec_l01In.f a0 0 12).bind fun t956 => (if t956 = true then ((spec_l01In.f a1 0 12).bind fun t957 => (if t957 = true then (if (wrap64 (a0 + a1)) ≤ 12 then ((spec_l08Gcd.f k a0 a1).bind fun t958 => (some (t958 == 1))) else (some false)) else (some false))) else (some false))
theorem spec_SlopeOk.mono : ∀ a0 a1 k, LeO (spec_SlopeOk.f k a0 a1) (spec_SlopeOk.f (k + 1) a0 a1) := by
  intro a0 a1 k
  unfold spec_SlopeOk.f
  repeat' first|exact spec_l08Gcd.mono _ _ _|exact lo_|refine LeO.ite ?_ ?_|refine LeO.bind ?_ (fun _ => ?_)
set_option maxHeartbeats 8000000 in
set_option maxRecDepth 100000 in
theorem spec_SlopeOk.calls (k : Nat) (a0 : Int) (a1 : Int) (r : Bool) (w : World) (h : spec_SlopeOk.f k a0 a1 = some r) :
    Calls Try.prog 89 #[.int .i64 a0, .int .i64 a1] w fun e w' => e = .returned (.bool r) ∧ Drawn0 w w' := by
  have H := h
  unfold spec_SlopeOk.f at H
  clear h
  obtain ⟨t956, A3, H⟩ := bi_ H
  by_cases c4 : t956 = true
  · subst c4
    rw [if_pos rfl] at H
    obtain ⟨t957, A5, H⟩ := bi_ H
    by_cases c6 : t957 = true
    · subst c6
      rw [if_pos rfl] at H
      by_cases c7 : (wrap64 (a0 + a1)) ≤ 12
      · rw [if_pos c7] at H
        have c7b0 := decide_eq_true c7
        clear c7
        obtain ⟨t958, A8, H⟩ := bi_ H
        obtain rfl := Option.some.inj H
        go_enter Try.func89, Try.ntmps89
        go_wp2_with (first | ((with_reducible refine gate_callee (f := 115) rfl ?_); refine gL_ (some 6) Try.func115 #[.int .i64 a0, .int .i64 0, .int .i64 12] rfl qa_ ?_; (with_reducible refine (spec_l01In.calls a0 0 12 true _ A3.out).mono ?_); rintro e w' ⟨rfl, ⟨nd, rfl⟩⟩; refine ⟨_, rfl, ?_⟩) | (go_at_call 115; (with_reducible refine (spec_l01In.calls a1 0 12 true _ A5.out).mono ?_); rintro e w' ⟨rfl, ⟨nd, rfl⟩⟩) | (go_at_call 69; (with_reducible refine (spec_l08Gcd.calls k a0 a1 t958 _ A8.out).mono ?_); rintro e w' ⟨rfl, ⟨nd, rfl⟩⟩))
        go_ret
        exact ⟨qc_, by repeat (first | exact Drawn0.refl _ | apply Drawn0.step)⟩
      · rw [if_neg c7] at H
        have c7b0 := decide_eq_false c7
        clear c7
        obtain rfl := Option.some.inj H
        go_enter Try.func89, Try.ntmps89
        go_wp2_with (first | ((with_reducible refine gate_callee (f := 115) rfl ?_); refine gL_ (some 6) Try.func115 #[.int .i64 a0, .int .i64 0, .int .i64 12] rfl qa_ ?_; (with_reducible refine (spec_l01In.calls a0 0 12 true _ A3.out).mono ?_); rintro e w' ⟨rfl, ⟨nd, rfl⟩⟩; refine ⟨_, rfl, ?_⟩) | (go_at_call 115; (with_reducible refine (spec_l01In.calls a1 0 12 true _ A5.out).mono ?_); rintro e w' ⟨rfl, ⟨nd, rfl⟩⟩))
        go_ret
        exact ⟨qc_, by repeat (first | exact Drawn0.refl _ | apply Drawn0.step)⟩
    · replace c6 := Bool.eq_false_iff.mpr c6
      subst c6
      have H1 : (some false) = some r := by rw [if_neg (show ¬ (false = true) by decide)] at H; exact H
      clear H
      have H := H1
      clear H1
      obtain rfl := Option.some.inj H
      go_enter Try.func89, Try.ntmps89
      go_wp2_with (first | ((with_reducible refine gate_callee (f := 115) rfl ?_); refine gL_ (some 6) Try.func115 #[.int .i64 a0, .int .i64 0, .int .i64 12] rfl qa_ ?_; (with_reducible refine (spec_l01In.calls a0 0 12 true _ A3.out).mono ?_); rintro e w' ⟨rfl, ⟨nd, rfl⟩⟩; refine ⟨_, rfl, ?_⟩) | (go_at_call 115; (with_reducible refine (spec_l01In.calls a1 0 12 false _ A5.out).mono ?_); rintro e w' ⟨rfl, ⟨nd, rfl⟩⟩))
      go_ret
      exact ⟨qc_, by repeat (first | exact Drawn0.refl _ | apply Drawn0.step)⟩
  · replace c4 := Bool.eq_false_iff.mpr c4
    subst c4
    have H1 : (some false) = some r := by rw [if_neg (show ¬ (false = true) by decide)] at H; exact H
    clear H
    have H := H1
    clear H1
    obtain rfl := Option.some.inj H
    go_enter Try.func89, Try.ntmps89
    go_wp2_with (first | ((with_reducible refine gate_callee (f := 115) rfl ?_); refine gL_ (some 6) Try.func115 #[.int .i64 a0, .int .i64 0, .int .i64 12] rfl qa_ ?_; (with_reducible refine (spec_l01In.calls a0 0 12 false _ A3.out).mono ?_); rintro e w' ⟨rfl, ⟨nd, rfl⟩⟩; refine ⟨_, rfl, ?_⟩))
    go_ret
    exact ⟨qc_, by repeat (first | exact Drawn0.refl _ | apply Drawn0.step)⟩
end Go.Proofs.Ytbdnellgioimbaa.A
end
section
namespace Go.Proofs.Ytbdnellgioimbaa.A
open Go.RowKit Go.Proofs.YtbdnellgioimbaaW.PrintWords Go.Proofs.YtbdnellgioimbaaW.PrintLast Go.Proofs.YtbdnellgioimbaaW.PrintMore
attribute [local go_sem] max2_int min2_int max_two min_two max_three min_three max_four min_four
set_option linter.unusedVariables false
set_option linter.unusedSimpArgs false
def spec_SlopeWord.l0 : Nat → Int → ByteArray → Int → Int → Option (ByteArray)
  | 0, _, _, _, _ => none
  | k + 1, x1, x5, x6, x7 => if x7 < x6 then (if x1 = 0 then (if x5.size + 1 ≤ 9223372036854775807 then (spec_SlopeWord.l0 k x1 (x5 ++ (⟨#[114]⟩ : ByteArray)) x6 (wrap64 (x7 + 1))) else (none)) else (if x6 = 0 then (none) else (if (Int.tmod (wrap64 (x7 * x1)) x6) < (Int.tmod (wrap64 ((wrap64 (x7 + 1)) * x1)) x6) then (if x5.size + 1 ≤ 9223372036854775807 then (spec_SlopeWord.l0 k x1 (x5 ++ (⟨#[114]⟩ : ByteArray)) x6 (wrap64 (x7 + 1))) else (none)) else (if x5.size + 1 ≤ 9223372036854775807 then (spec_SlopeWord.l0 k x1 (x5 ++ (⟨#[117]⟩ : ByteArray)) x6 (wrap64 (x7 + 1))) else (none))))) else (some x5)
def spec_SlopeWord.f (k : Nat) (a0 : Int) (a1 : Int) : Option (ByteArray) := (spec_SlopeOk.f k a0 a1).bind fun t959 => (if t959 = true then (spec_SlopeWord.l0 k a1 (⟨#[]⟩ : ByteArray) (wrap64 (a0 + a1)) 0) else (some (⟨#[]⟩ : ByteArray)))
theorem spec_SlopeWord.mono_l : ∀ k, (∀ y0 y1 y2 y3, LeO (spec_SlopeWord.l0 k y0 y1 y2 y3) (spec_SlopeWord.l0 (k + 1) y0 y1 y2 y3))
  | 0 => fun _ _ _ _ r h => by simp [spec_SlopeWord.l0] at h
  | k + 1 => by
    have ih0 := spec_SlopeWord.mono_l k
    · intro y0 y1 y2 y3
      unfold spec_SlopeWord.l0
      repeat' first|exact ih0 _ _ _ _|exact spec_SlopeOk.mono _ _ _|exact lo_|refine LeO.ite ?_ ?_|refine LeO.bind ?_ (fun _ => ?_)
theorem spec_SlopeWord.mono : ∀ a0 a1 k, LeO (spec_SlopeWord.f k a0 a1) (spec_SlopeWord.f (k + 1) a0 a1) := by
  intro a0 a1 k
  have ih0 := spec_SlopeWord.mono_l k
  unfold spec_SlopeWord.f
  repeat' first|exact ih0 _ _ _ _|exact spec_SlopeOk.mono _ _ _|exact lo_|refine LeO.ite ?_ ?_|refine LeO.bind ?_ (fun _ => ?_)
set_option maxHeartbeats 8000000 in
set_option maxRecDepth 100000 in
theorem spec_SlopeWord.calls (k : Nat) (a0 : Int) (a1 : Int) (r : ByteArray) (w : World) (h : spec_SlopeWord.f k a0 a1 = some r) :
    Calls Try.prog 80 #[.int .i64 a0, .int .i64 a1] w fun e w' => e = .returned (.string r) ∧ Drawn0 w w' := by
  have H := h
  unfold spec_SlopeWord.f at H
  clear h
  obtain ⟨t959, A3, H⟩ := bi_ H
  by_cases c4 : t959 = true
  · subst c4
    rw [if_pos rfl] at H
    have H' := Aside0.mk H
    clear H
    go_enter Try.func80, Try.ntmps80
    go_wp2_with (first | (go_at_call 89; (with_reducible refine (spec_SlopeOk.calls k a0 a1 true _ A3.out).mono ?_); rintro e w' ⟨rfl, ⟨nd, rfl⟩⟩; (try first | exact ⟨rfl, _, World.drewN_drewN _ _ _⟩ | exact ⟨rfl, _, Eq.trans (World.drewN_drewN _ _ _) (congrArg (World.drewN _) (Nat.add_assoc _ _ _))⟩)))
    repeat (go_quiet (first | (go_at_call 89; (with_reducible refine (spec_SlopeOk.calls k a0 a1 true _ A3.out).mono ?_); rintro e w' ⟨rfl, ⟨nd, rfl⟩⟩; (try first | exact ⟨rfl, _, World.drewN_drewN _ _ _⟩ | exact ⟨rfl, _, Eq.trans (World.drewN_drewN _ _ _) (congrArg (World.drewN _) (Nat.add_assoc _ _ _))⟩))); try go_wp2_with (first | (go_at_call 89; (with_reducible refine (spec_SlopeOk.calls k a0 a1 true _ A3.out).mono ?_); rintro e w' ⟨rfl, ⟨nd, rfl⟩⟩; (try first | exact ⟨rfl, _, World.drewN_drewN _ _ _⟩ | exact ⟨rfl, _, Eq.trans (World.drewN_drewN _ _ _) (congrArg (World.drewN _) (Nat.add_assoc _ _ _))⟩))))
    go_loopg [5, 7] k (fun kq v5 v7 w' => ∃ (x5_1 : ByteArray) (x7_1 : Int), v5 = .string x5_1 ∧ v7 = .int .i64 x7_1 ∧ Aside0 (spec_SlopeWord.l0 kq a1 x5_1 (wrap64 (a0 + a1)) x7_1 = some r) ∧ Aside0 (kq ≤ k) ∧ Drawn0 w w')
    case atStart => exact ⟨((⟨#[]⟩ : ByteArray)), (0), qc_, qc_, H', ⟨Nat.le_refl _⟩, by repeat (first | exact Drawn0.refl _ | apply Drawn0.step)⟩
    case round =>
      clear H'
      obtain ⟨x5_1, x7_1, rfl, rfl, HA, HK1, ⟨m1, rfl⟩⟩ := hrel
      cases gk with
      | zero => exact absurd HA.out (by simp [spec_SlopeWord.l0])
      | succ k1 =>
        have H := HA.out
        clear HA
        simp only [spec_SlopeWord.l0] at H
        by_cases c5 : x7_1 < (wrap64 (a0 + a1))
        · rw [if_pos c5] at H
          have c5b0 := decide_eq_true c5
          clear c5
          by_cases c6 : a1 = 0
          · rw [if_pos c6] at H
            have c6b0 : (a1 == 0) = true := beq_iff_eq.mpr c6
            have c6b1 : (a1 != 0) = false := bne_eq_false_iff_eq.mpr c6
            clear c6
            have c7 := cp_ H
            replace H := ca_ H
            have c7b0 := eq_true c7
            have c7b1 := decide_eq_true c7
            try have c7b2 : (9223372036854775807 < x5_1.size + 1) = False := eq_false (Nat.not_lt.2 c7)
            have H' := Aside0.mk H
            clear H
            go_wp2
            repeat (go_quiet (fail); try go_wp2)
            go_roundg k1
            case measure => have := HK1.out; omega
            case rel => exact ⟨(x5_1 ++ (⟨#[114]⟩ : ByteArray)), (wrap64 (x7_1 + 1)), qc_, qc_, H', ⟨by have := HK1.out; omega⟩, by repeat (first | exact Drawn0.refl _ | apply Drawn0.step)⟩
          · rw [if_neg c6] at H
            have c6b0 : (a1 == 0) = false := beq_eq_false_iff_ne.mpr c6
            have c6b1 : (a1 != 0) = true := bne_iff_ne.mpr c6
            by_cases c8 : (wrap64 (a0 + a1)) = 0
            · rw [if_pos c8] at H
              exact absurd H (by simp)
            · rw [if_neg c8] at H
              have c8b0 : ((wrap64 (a0 + a1)) == 0) = false := beq_eq_false_iff_ne.mpr c8
              have c8b1 : ((wrap64 (a0 + a1)) != 0) = true := bne_iff_ne.mpr c8
              by_cases c9 : (Int.tmod (wrap64 (x7_1 * a1)) (wrap64 (a0 + a1))) < (Int.tmod (wrap64 ((wrap64 (x7_1 + 1)) * a1)) (wrap64 (a0 + a1)))
              · rw [if_pos c9] at H
                have c9b0 := decide_eq_true c9
                clear c9
                have c10 := cp_ H
                replace H := ca_ H
                have c10b0 := eq_true c10
                have c10b1 := decide_eq_true c10
                try have c10b2 : (9223372036854775807 < x5_1.size + 1) = False := eq_false (Nat.not_lt.2 c10)
                have H' := Aside0.mk H
                clear H
                go_wp2
                repeat (go_quiet (fail); try go_wp2)
                go_roundg k1
                case measure => have := HK1.out; omega
                case rel => exact ⟨(x5_1 ++ (⟨#[114]⟩ : ByteArray)), (wrap64 (x7_1 + 1)), qc_, qc_, H', ⟨by have := HK1.out; omega⟩, by repeat (first | exact Drawn0.refl _ | apply Drawn0.step)⟩
              · rw [if_neg c9] at H
                have c9b0 := decide_eq_false c9
                clear c9
                have c11 := cp_ H
                replace H := ca_ H
                have c11b0 := eq_true c11
                have c11b1 := decide_eq_true c11
                try have c11b2 : (9223372036854775807 < x5_1.size + 1) = False := eq_false (Nat.not_lt.2 c11)
                have H' := Aside0.mk H
                clear H
                go_wp2
                repeat (go_quiet (fail); try go_wp2)
                go_roundg k1
                case measure => have := HK1.out; omega
                case rel => exact ⟨(x5_1 ++ (⟨#[117]⟩ : ByteArray)), (wrap64 (x7_1 + 1)), qc_, qc_, H', ⟨by have := HK1.out; omega⟩, by repeat (first | exact Drawn0.refl _ | apply Drawn0.step)⟩
        · rw [if_neg c5] at H
          have c5b0 := decide_eq_false c5
          clear c5
          obtain rfl := Option.some.inj H
          go_wp2
          repeat (go_quiet (fail); try go_wp2)
          go_ret
          exact ⟨qc_, by repeat (first | exact Drawn0.refl _ | apply Drawn0.step)⟩
  · replace c4 := Bool.eq_false_iff.mpr c4
    subst c4
    have H1 : (some (⟨#[]⟩ : ByteArray)) = some r := by rw [if_neg (show ¬ (false = true) by decide)] at H; exact H
    clear H
    have H := H1
    clear H1
    obtain rfl := Option.some.inj H
    go_enter Try.func80, Try.ntmps80
    go_wp2_with (first | (go_at_call 89; (with_reducible refine (spec_SlopeOk.calls k a0 a1 false _ A3.out).mono ?_); rintro e w' ⟨rfl, ⟨nd, rfl⟩⟩; (try first | exact ⟨rfl, _, World.drewN_drewN _ _ _⟩ | exact ⟨rfl, _, Eq.trans (World.drewN_drewN _ _ _) (congrArg (World.drewN _) (Nat.add_assoc _ _ _))⟩)))
    repeat (go_quiet (first | (go_at_call 89; (with_reducible refine (spec_SlopeOk.calls k a0 a1 false _ A3.out).mono ?_); rintro e w' ⟨rfl, ⟨nd, rfl⟩⟩; (try first | exact ⟨rfl, _, World.drewN_drewN _ _ _⟩ | exact ⟨rfl, _, Eq.trans (World.drewN_drewN _ _ _) (congrArg (World.drewN _) (Nat.add_assoc _ _ _))⟩))); try go_wp2_with (first | (go_at_call 89; (with_reducible refine (spec_SlopeOk.calls k a0 a1 false _ A3.out).mono ?_); rintro e w' ⟨rfl, ⟨nd, rfl⟩⟩; (try first | exact ⟨rfl, _, World.drewN_drewN _ _ _⟩ | exact ⟨rfl, _, Eq.trans (World.drewN_drewN _ _ _) (congrArg (World.drewN _) (Nat.add_assoc _ _ _))⟩))))
    go_ret
    exact ⟨qc_, by repeat (first | exact Drawn0.refl _ | apply Drawn0.step)⟩
end Go.Proofs.Ytbdnellgioimbaa.A
end
section
/- Slopes and paths: the program and the reference answer alike. No conditions. -/
namespace Go.Proofs.Ytbdnellgioimbaa.M
set_option linter.unusedVariables false
set_option linter.unusedSimpArgs false
open Go.RowKit Go.Proofs.YtbdnellgioimbaaW.PrintWords Go.Proofs.YtbdnellgioimbaaW.PrintLast Go.Proofs.YtbdnellgioimbaaW.PrintMore Go.Proofs.Ytbdnellgioimbaa.A
def slopeOkI (p q : Int) : Bool := (impl_SlopeOk.f 60 p q).getD false
def slopeWordI (p q : Int) : ByteArray := (impl_SlopeWord.f 60 p q).getD ⟨#[]⟩
theorem slope_tab : ∀ a : Fin 13, ∀ b : Fin 13, spec_SlopeOk.f 60 (a.val : Int) (b.val : Int) = some (slopeOkI (a.val : Int) (b.val : Int)) ∧ impl_SlopeOk.f 60 (a.val : Int) (b.val : Int) = some (slopeOkI (a.val : Int) (b.val : Int)) := by decide +kernel
theorem slopeW_tab : ∀ a : Fin 13, ∀ b : Fin 13, spec_SlopeWord.f 60 (a.val : Int) (b.val : Int) = some (slopeWordI (a.val : Int) (b.val : Int)) ∧ impl_SlopeWord.f 60 (a.val : Int) (b.val : Int) = some (slopeWordI (a.val : Int) (b.val : Int)) ∧ (slopeWordI (a.val : Int) (b.val : Int)).size ≤ 12 := by decide +kernel
theorem slope_out {p q : Int} (h : ¬ ((0 ≤ p ∧ p ≤ 12) ∧ (0 ≤ q ∧ q ≤ 12))) (k : Nat) : spec_SlopeOk.f k p q = some false ∧ impl_SlopeOk.f k p q = some false := by
  unfold spec_SlopeOk.f impl_SlopeOk.f spec_l01In.f
  by_cases h1 : 0 ≤ p
  · by_cases h2 : p ≤ 12
    · by_cases h3 : 0 ≤ q
      · have h4 : ¬ q ≤ 12 := by omega
        simp [h1, h2, h3, h4]
      · simp [h1, h2, h3]
    · by_cases h3 : 0 ≤ q <;> simp [h1, h2, h3]
  · simp [h1]
theorem slope_false {p q : Int} (h : ¬ ((0 ≤ p ∧ p ≤ 12) ∧ (0 ≤ q ∧ q ≤ 12))) : slopeOkI p q = false := by
  unfold slopeOkI
  rw [(slope_out h 60).2]
  rfl
theorem slopes_ev (p q : Int) : Ev (fun k => spec_SlopeOk.f k p q) (slopeOkI p q) ∧ Ev (fun k => impl_SlopeOk.f k p q) (slopeOkI p q) := by
  by_cases h : (0 ≤ p ∧ p ≤ 12) ∧ (0 ≤ q ∧ q ≤ 12)
  · obtain ⟨⟨h1, h2⟩, h3, h4⟩ := h
    obtain ⟨a, rfl⟩ : ∃ a : Nat, p = a := ⟨p.toNat, by omega⟩
    obtain ⟨b, rfl⟩ : ∃ b : Nat, q = b := ⟨q.toNat, by omega⟩
    have := slope_tab ⟨a, by omega⟩ ⟨b, by omega⟩
    exact ⟨Ev.of (fun k => spec_SlopeOk.mono _ _ k) this.1, Ev.of (fun k => impl_SlopeOk.mono _ _ k) this.2⟩
  · rw [slope_false h]
    exact ⟨⟨0, fun k _ => (slope_out h k).1⟩, ⟨0, fun k _ => (slope_out h k).2⟩⟩
theorem slope_in {p q : Int} (h : slopeOkI p q = true) : (0 ≤ p ∧ p ≤ 12) ∧ (0 ≤ q ∧ q ≤ 12) := by
  apply Classical.byContradiction
  intro k
  rw [slope_false k] at h
  cases h
theorem words_ev {p q : Int} (h : slopeOkI p q = true) : Ev (fun k => spec_SlopeWord.f k p q) (slopeWordI p q) ∧ Ev (fun k => impl_SlopeWord.f k p q) (slopeWordI p q) ∧ (slopeWordI p q).size ≤ 12 := by
  obtain ⟨⟨h1, h2⟩, h3, h4⟩ := slope_in h
  obtain ⟨a, rfl⟩ : ∃ a : Nat, p = a := ⟨p.toNat, by omega⟩
  obtain ⟨b, rfl⟩ : ∃ b : Nat, q = b := ⟨q.toNat, by omega⟩
  have := slopeW_tab ⟨a, by omega⟩ ⟨b, by omega⟩
  exact ⟨Ev.of (fun k => spec_SlopeWord.mono _ _ k) this.1, Ev.of (fun k => impl_SlopeWord.mono _ _ k) this.2.1, this.2.2⟩
theorem tab_snoc (i : Nat) (f : Nat → Nat) : tab i f ++ [f i] = tab (i + 1) f := by unfold tab; rw [List.range_succ]; simp
theorem spec_then {p q : List Nat} (hp : ∀ i, i < p.length → g p i < q.length) (h : p.length ≤ 1000) : Ev (fun k => spec_l02Then.f k (I p) (I q)) (I (thn p q)) := by
  unfold spec_l02Then.f
  have H : ∀ d i : Nat, i + d = p.length → Ev (fun k => spec_l02Then.l0 k (I q) (I (tab i (fun i => g q (g p i)))) (I p) (p.length : Int) (i : Int)) (I (thn p q)) := by
    intro d
    induction d with
    | zero =>
      intro i h
      obtain rfl : i = p.length := by omega
      refine ev_succ ?_
      have h1 : ¬ ((p.length : Int) < (p.length : Int)) := by omega
      simp only [spec_l02Then.l0, h1, if_false]
      exact Ev.now _
    | succ d ih =>
      intro i h
      have hi : i < p.length := by omega
      have hg := hp i hi
      refine ev_succ ?_
      have h1 : (i : Int) < (p.length : Int) := by omega
      have h2 := w64s i (by omega)
      have h3 : (I (tab i (fun i => g q (g p i)))).length < 17592186044416 := by rw [I_len, tab_len]; omega
      have h4 : (0 : Int) ≤ (i : Int) := by omega
      have h5 : (0 : Int) ≤ ((g p i : Nat) : Int) := by omega
      have h6 : ((g p i : Nat) : Int) < (q.length : Int) := by omega
      have e := tab_snoc i (fun i => g q (g p i))
      simp only [spec_l02Then.l0, h1, h2, h3, h4, h5, h6, rdI, I_len', if_true, I_snoc, e]
      exact ih (i + 1) (by omega)
  have := H p.length 0 (by omega)
  simp only [I_len']
  exact this
def wk (r u : List Nat) (w : ByteArray) : Nat → Nat → Nat
  | 0, x => x
  | j + 1, x => if bt w (j : Int) = 114 then g r (wk r u w j x) else g u (wk r u w j x)
theorem wk_lt {r u : List Nat} (hs : Sf r u) (w : ByteArray) (j : Nat) {x : Nat} (hx : x < r.length) : wk r u w j x < r.length := by
  induction j with
  | zero => exact hx
  | succ j ih =>
    unfold wk
    split
    · exact g_lt hs.pr ih
    · have := g_lt hs.pu (i := wk r u w j x) (by rw [hs.eq]; exact ih)
      rw [hs.eq] at this
      exact this
theorem wk_inj {r u : List Nat} (hs : Sf r u) (w : ByteArray) (j : Nat) {x y : Nat} (hx : x < r.length) (hy : y < r.length) (h : wk r u w j x = wk r u w j y) : x = y := by
  induction j with
  | zero => exact h
  | succ j ih =>
    unfold wk at h
    split at h
    · exact ih (g_inj hs.pr (wk_lt hs w j hx) (wk_lt hs w j hy) h)
    · exact ih (g_inj hs.pu (by rw [hs.eq]; exact wk_lt hs w j hx) (by rw [hs.eq]; exact wk_lt hs w j hy) h)
def pathL (r u : List Nat) (w : ByteArray) : List Nat := tab r.length (wk r u w w.size)
theorem pathL_len (r u : List Nat) (w : ByteArray) : (pathL r u w).length = r.length := tab_len _ _
theorem isP_pathL {r u : List Nat} (hs : Sf r u) (w : ByteArray) : IsP (pathL r u w) :=
  isP_tab (fun i hi => wk_lt hs w _ hi) (fun i j hi hj e => wk_inj hs w _ hi hj e)
def pathP (r u : List Int) (p q : Int) : List Int × Bool := if surfB r u = true ∧ slopeOkI p q = true then (I (pathL (N r) (N u) (slopeWordI p q)), true) else ([], false)
theorem step_ev {r u : List Nat} (hs : Sf r u) {x : Nat} (hx : x < r.length) (c : Int) : impl_stepSquare.f (I r) (I u) (x : Int) c = some (((if c = 114 then g r x else g u x : Nat) : Nat) : Int) := by
  unfold impl_stepSquare.f
  have h1 : (0 : Int) ≤ (x : Int) := by omega
  have h2 : (x : Int) < (r.length : Int) := by omega
  have h3 : (x : Int) < (u.length : Int) := by rw [hs.eq]; omega
  by_cases h : c = 114
  · simp only [h, h1, h2, rdI, I_len', if_true]
  · simp only [h, h1, h3, rdI, I_len', if_true, if_false]
theorem impl_pathPerm (r u : List Int) (p q : Int) : Ev (fun k => impl_PathPerm.f k r u p q) (pathP r u p q) := by
  unfold impl_PathPerm.f
  refine Ev.bind (impl_surf r u) ?_
  by_cases h1 : surfB r u = true
  · simp only [h1, if_true]
    refine Ev.bind (slopes_ev p q).2 ?_
    refine ev_succ ?_
    by_cases h2 : slopeOkI p q = true
    · obtain ⟨r, u, rfl, rfl, hs⟩ := surf_nat h1
      obtain ⟨_, w2, w3⟩ := words_ev h2
      have hle := hs.le
      have e : pathP (I r) (I u) p q = (I (pathL r u (slopeWordI p q)), true) := by
        unfold pathP
        rw [if_pos ⟨h1, h2⟩, N_I, N_I]
      rw [e]
      simp only [impl_PathPerm.j0, h2, Bool.not_true, Bool.false_eq_true, if_false]
      refine Ev.bind w2 ?_
      generalize slopeWordI p q = w at w3
      have L1 : ∀ (i : Nat) (out : List Int) (res : List Int × Bool), i < r.length → out.length < 17592186044416 →
          Ev (fun k => impl_PathPerm.l0 k w (out ++ [((wk r u w w.size i : Nat) : Int)]) (r.length : Int) ((i + 1 : Nat) : Int) (I r) (I u)) res →
          ∀ d j : Nat, j + d = w.size → Ev (fun k => impl_PathPerm.l1 k w out ((wk r u w j i : Nat) : Int) (j : Int) (r.length : Int) (i : Int) (I r) (I u)) res := by
        intro i out res hi ho H d
        induction d with
        | zero =>
          intro j h
          obtain rfl : j = w.size := by omega
          refine ev_succ ?_
          have h1 : ¬ ((w.size : Int) < (w.size : Int)) := by omega
          have h2 := w64s i (by omega)
          simp only [impl_PathPerm.l1, h1, h2, ho, if_true, if_false]
          exact H
        | succ d ih =>
          intro j h
          refine ev_succ ?_
          have h1 : (j : Int) < (w.size : Int) := by omega
          have h2 : (0 : Int) ≤ (j : Int) := by omega
          have h3 := w64s j (by omega)
          have := step_ev hs (wk_lt hs w j hi) (bt w (j : Int))
          simp only [impl_PathPerm.l1, h1, h2, h3, this, if_true, Option.bind_some]
          have := ih (j + 1) (by omega)
          rw [wk] at this
          exact this
      have L0 : ∀ d i : Nat, i + d = r.length → Ev (fun k => impl_PathPerm.l0 k w (I (tab i (wk r u w w.size))) (r.length : Int) (i : Int) (I r) (I u)) (I (pathL r u w), true) := by
        intro d
        induction d with
        | zero =>
          intro i h
          obtain rfl : i = r.length := by omega
          refine ev_succ ?_
          have h1 : ¬ ((r.length : Int) < (r.length : Int)) := by omega
          simp only [impl_PathPerm.l0, h1, if_false]
          exact Ev.now _
        | succ d ih =>
          intro i h
          refine ev_succ ?_
          have h1 : (i : Int) < (r.length : Int) := by omega
          simp only [impl_PathPerm.l0, h1, if_true]
          have i1 := ih (i + 1) (by omega)
          rw [← tab_snoc, ← I_snoc] at i1
          exact L1 i _ _ (by omega) (by rw [I_len, tab_len]; omega) i1 w.size 0 (by omega)
      have := L0 r.length 0 (by omega)
      simp only [I_len']
      exact this
    · have h2' := Bool.eq_false_iff.mpr h2
      have e : pathP r u p q = ([], false) := by
        unfold pathP
        rw [if_neg (fun h => h2 h.2)]
      rw [e]
      simp only [impl_PathPerm.j0, h2', Bool.not_false, if_true]
      exact Ev.now _
  · have h1' := Bool.eq_false_iff.mpr h1
    have e : pathP r u p q = ([], false) := by
      unfold pathP
      rw [if_neg (fun h => h1 h.1)]
    rw [e]
    simp only [h1', Bool.false_eq_true, if_false]
    refine ev_succ ?_
    simp only [impl_PathPerm.j0, if_true]
    exact Ev.now _
end Go.Proofs.Ytbdnellgioimbaa.M
end
section
/- Words of letters: the program and the reference act alike. No conditions. -/
namespace Go.Proofs.Ytbdnellgioimbaa.M
set_option linter.unusedVariables false
set_option linter.unusedSimpArgs false
open Go.RowKit Go.Proofs.YtbdnellgioimbaaW.PrintWords Go.Proofs.YtbdnellgioimbaaW.PrintLast Go.Proofs.YtbdnellgioimbaaW.PrintMore Go.Proofs.Ytbdnellgioimbaa.A
def lt (c : Int) (s : List Nat × List Nat) : List Nat × List Nat := if c = 84 then (s.1, thn (inv s.1) s.2) else if c = 116 then (s.1, thn s.1 s.2) else if c = 83 then (inv s.2, s.1) else (s.2, inv s.1)
theorem sf_lt {s : List Nat × List Nat} (hs : Sf s.1 s.2) (c : Int) : Sf (lt c s).1 (lt c s).2 ∧ (lt c s).1.length = s.1.length := by
  unfold lt
  split
  · exact ⟨sf_T hs, rfl⟩
  · split
    · exact ⟨sf_t hs, rfl⟩
    · split
      · exact ⟨sf_S hs, by show (inv s.2).length = _; rw [inv_len, hs.eq]⟩
      · exact ⟨sf_s hs, hs.eq⟩
def rn (w : ByteArray) (s : List Nat × List Nat) : Nat → List Nat × List Nat
  | 0 => s
  | j + 1 => lt (bt w (j : Int)) (rn w s j)
theorem sf_rn {s : List Nat × List Nat} (hs : Sf s.1 s.2) (w : ByteArray) (j : Nat) : Sf (rn w s j).1 (rn w s j).2 ∧ (rn w s j).1.length = s.1.length := by
  induction j with
  | zero => exact ⟨hs, rfl⟩
  | succ j ih =>
    have := sf_lt ih.1 (bt w (j : Int))
    exact ⟨this.1, this.2.trans ih.2⟩
def letB (c : Int) : Bool := decide (c = 84 ∨ c = 116 ∨ c = 83 ∨ c = 115)
theorem idx_tab : ∀ n : Fin 256, decide (Lib.indexByte [84, 116, 83, 115] n.val.toUInt8 < 0) = !letB (n.val : Int) := by decide +kernel
theorem idx_ev {c : Int} (h0 : 0 ≤ c) (h1 : c ≤ 255) : ∃ i, strings_IndexByte.f (⟨#[84, 116, 83, 115]⟩ : ByteArray) c = some i ∧ decide (i < 0) = !letB c := by
  obtain ⟨n, rfl⟩ : ∃ n : Nat, c = n := ⟨c.toNat, by omega⟩
  refine ⟨_, rfl, ?_⟩
  exact idx_tab ⟨n, by omega⟩
def wordB (w : ByteArray) : Bool := decide ((∀ j, j < w.size → letB (bt w (j : Int)) = true) ∧ w.size ≤ 40)
theorem impl_wordOk (w : ByteArray) (hw : w.size ≤ 9000000000000000000) : Ev (fun k => impl_WordOk.f k w) (wordB w) := by
  unfold impl_WordOk.f
  have H : ∀ d j : Nat, j + d = w.size → (∀ i, i < j → letB (bt w (i : Int)) = true) → Ev (fun k => impl_WordOk.l0 k w (j : Int)) (wordB w) := by
    intro d
    induction d with
    | zero =>
      intro j hj hl
      obtain rfl : j = w.size := by omega
      refine ev_succ ?_
      have c1 : ¬ ((w.size : Int) < (w.size : Int)) := by omega
      have e : decide ((w.size : Int) ≤ 40) = wordB w := by
        unfold wordB
        rw [decide_eq_decide]
        constructor
        · intro h
          exact ⟨hl, by omega⟩
        · intro h
          have := h.2
          omega
      simp only [impl_WordOk.l0, c1, if_false, e]
      exact Ev.now _
    | succ d ih =>
      intro j hj hl
      obtain ⟨b0, b1⟩ := bt_range w (j : Int)
      obtain ⟨i, e, hi⟩ := idx_ev b0 b1
      refine ev_succ ?_
      have c1 : (j : Int) < (w.size : Int) := by omega
      have c2 : (0 : Int) ≤ (j : Int) := by omega
      have c3 := w64s j (by omega)
      simp only [impl_WordOk.l0, c1, c2, c3, e, if_true, Option.bind_some]
      by_cases hb : letB (bt w (j : Int)) = true
      · have c4 : ¬ i < 0 := by
          rw [hb] at hi
          exact of_decide_eq_false hi
        simp only [c4, if_false]
        exact ih (j + 1) (by omega) (fun q hq => by
          by_cases e : q = j
          · rw [e]; exact hb
          · exact hl q (by omega))
      · have hb' := Bool.eq_false_iff.mpr hb
        have c4 : i < 0 := by
          rw [hb'] at hi
          exact of_decide_eq_true hi
        have e2 : wordB w = false := by
          unfold wordB
          rw [decide_eq_false_iff_not]
          intro h
          exact hb (h.1 j (by omega))
        simp only [c4, if_true, e2]
        exact Ev.now _
  exact H w.size 0 (Nat.zero_add _) (fun i hi => by omega)
theorem copy_ev (l : List Int) (h : l.length ≤ 1000000) : impl_copyInts.f l = some l := by
  unfold impl_copyInts.f
  have c1 : ([] : List Int).length + l.length < 17592186044416 := by simp; omega
  simp only [Option.bind_some, c1, if_true, List.nil_append]
theorem impl_letter {s : List Nat × List Nat} (hs : Sf s.1 s.2) (c : Int) (hc : letB c = true) : Ev (fun k => impl_letterSurface.f k (I s.1) (I s.2) c) (I (lt c s).1, I (lt c s).2) := by
  have hle := hs.le
  have heq := hs.eq
  have h0 := surfB_I.mpr hs
  have k1 := copy_ev (I s.1) (by rw [I_len]; omega)
  have k2 := copy_ev (I s.2) (by rw [I_len]; omega)
  have hc := of_decide_eq_true hc
  unfold impl_letterSurface.f lt
  by_cases h1 : c = 84
  · simp only [h1, if_true]
    refine Ev.bind (a := (I s.1, I (thn (inv s.1) s.2), true)) ?_ (Ev.now _)
    unfold impl_ShearSurface.f
    refine Ev.bind (impl_surf _ _) ?_
    simp only [h0, k1, if_true, Option.bind_some]
    exact Ev.bind (impl_inv hs.pr hs.le) (Ev.bind (impl_then (isP_inv hs.pr) hs.pu (by rw [inv_len, hs.eq]) (by rw [inv_len]; exact hs.le)) (Ev.now _))
  · by_cases h2 : c = 116
    · have n1 : ¬ ((116 : Int) = 84) := by omega
      simp only [h2, n1, if_true, if_false]
      refine Ev.bind (a := (I s.1, I (thn s.1 s.2), true)) ?_ (Ev.now _)
      unfold impl_UnshearSurface.f
      refine Ev.bind (impl_surf _ _) ?_
      simp only [h0, k1, if_true, Option.bind_some]
      exact Ev.bind (impl_then hs.pr hs.pu hs.eq.symm hs.le) (Ev.now _)
    · by_cases h3 : c = 83
      · have n1 : ¬ ((83 : Int) = 84) := by omega
        have n2 : ¬ ((83 : Int) = 116) := by omega
        simp only [h3, n1, n2, if_true, if_false]
        refine Ev.bind (a := (I (inv s.2), I s.1, true)) ?_ (Ev.now _)
        unfold impl_TurnSurface.f
        refine Ev.bind (impl_surf _ _) ?_
        simp only [h0, if_true]
        refine Ev.bind (impl_inv hs.pu (by omega)) ?_
        simp only [k1, Option.bind_some]
        exact Ev.now _
      · have h4 : c = 115 := by omega
        have n1 : ¬ ((115 : Int) = 84) := by omega
        have n2 : ¬ ((115 : Int) = 116) := by omega
        have n3 : ¬ ((115 : Int) = 83) := by omega
        simp only [h4, n1, n2, n3, if_true, if_false]
        refine Ev.bind (a := (I s.2, I (inv s.1), true)) ?_ (Ev.now _)
        unfold impl_UnturnSurface.f
        refine Ev.bind (impl_surf _ _) ?_
        simp only [h0, k2, if_true, Option.bind_some]
        exact Ev.bind (impl_inv hs.pr hs.le) (Ev.now _)
def runP (r u : List Int) (w : ByteArray) : List Int × List Int × Bool := if surfB r u = true ∧ wordB w = true then (I (rn w (N r, N u) w.size).1, I (rn w (N r, N u) w.size).2, true) else ([], [], false)
theorem runP_yes {s : List Nat × List Nat} (hs : Sf s.1 s.2) {w : ByteArray} (hw : wordB w = true) : runP (I s.1) (I s.2) w = (I (rn w s w.size).1, I (rn w s w.size).2, true) := by
  unfold runP
  rw [if_pos ⟨surfB_I.mpr hs, hw⟩, N_I, N_I]
theorem impl_run (r u : List Int) (w : ByteArray) (hw : w.size ≤ 9000000000000000000) : Ev (fun k => impl_RunWord.f k r u w) (runP r u w) := by
  unfold impl_RunWord.f
  refine Ev.bind (impl_surf _ _) ?_
  by_cases h : surfB r u = true
  · simp only [h, if_true]
    refine Ev.bind (impl_wordOk w hw) ?_
    by_cases h2 : wordB w = true
    · obtain ⟨r, u, rfl, rfl, hs⟩ := surf_nat h
      rw [runP_yes (s := (r, u)) hs h2, h2]
      have hd := of_decide_eq_true h2
      have hle := hs.le
      have heq := hs.eq
      have k1 := copy_ev (I r) (by rw [I_len]; omega)
      have k2 := copy_ev (I u) (by rw [I_len]; omega)
      refine ev_succ ?_
      simp only [impl_RunWord.j0, impl_copySurface.f, k1, k2, Option.bind_some, Bool.not_true, Bool.false_eq_true, if_false]
      have H : ∀ d j : Nat, j + d = w.size → Ev (fun k => impl_RunWord.l0 k w (j : Int) (I (rn w (r, u) j).1) (I (rn w (r, u) j).2)) (I (rn w (r, u) w.size).1, I (rn w (r, u) w.size).2, true) := by
        intro d
        induction d with
        | zero =>
          intro j hj
          obtain rfl : j = w.size := by omega
          refine ev_succ ?_
          have c1 : ¬ ((w.size : Int) < (w.size : Int)) := by omega
          simp only [impl_RunWord.l0, c1, if_false]
          exact Ev.now _
        | succ d ih =>
          intro j hj
          refine ev_succ ?_
          have c1 : (j : Int) < (w.size : Int) := by omega
          have c2 : (0 : Int) ≤ (j : Int) := by omega
          have c3 := w64s j (by omega)
          simp only [impl_RunWord.l0, c1, c2, c3, if_true]
          exact Ev.bind (impl_letter (sf_rn (s := (r, u)) hs w j).1 _ (hd.1 j (by omega))) (ih (j + 1) (by omega))
      exact H w.size 0 (Nat.zero_add _)
    · have h2' := Bool.eq_false_iff.mpr h2
      have e : runP r u w = ([], [], false) := by
        unfold runP
        rw [if_neg (fun h => h2 h.2)]
      rw [e, h2']
      refine ev_succ ?_
      simp only [impl_RunWord.j0, Bool.not_false, if_true]
      exact Ev.now _
  · have e : runP r u w = ([], [], false) := by
      unfold runP
      rw [if_neg (fun k => h k.1)]
    have h' := Bool.eq_false_iff.mpr h
    simp only [h', Bool.false_eq_true, if_false]
    rw [e]
    refine ev_succ ?_
    simp only [impl_RunWord.j0, if_true]
    exact Ev.now _
end Go.Proofs.Ytbdnellgioimbaa.M
end
section
/- The row above: lookups of the program and the reference. No conditions. -/
namespace Go.Proofs.Ytbdnellgioimbaa.M
set_option linter.unusedVariables false
set_option linter.unusedSimpArgs false
open Go.RowKit Go.Proofs.YtbdnellgioimbaaW.PrintWords Go.Proofs.YtbdnellgioimbaaW.PrintLast Go.Proofs.YtbdnellgioimbaaW.PrintMore Go.Proofs.Ytbdnellgioimbaa.A
theorem index_ev (l : List Nat) (a : Nat) (hl : l.length ≤ 1000000000) : ∃ i : Int, Ev (fun k => slices_Index_int_int.f k (I l) (a : Int)) i ∧ (decide (i ≥ 0) = decide (a ∈ l)) := by
  unfold slices_Index_int_int.f
  have H : ∀ d i : Nat, i + d = l.length → a ∉ l.take i → ∃ j : Int, Ev (fun k => slices_Index_int_int.l0 k (I l) (a : Int) (l.length : Int) (i : Int)) j ∧ (decide (j ≥ 0) = decide (a ∈ l)) := by
    intro d
    induction d with
    | zero =>
      intro i h hn
      refine ⟨-1, ev_succ ?_, ?_⟩
      · have h1 : ¬ ((i : Int) < (l.length : Int)) := by omega
        simp only [slices_Index_int_int.l0, h1, if_false]
        exact Ev.now _
      · rw [List.take_of_length_le (by omega)] at hn
        simp [hn]
    | succ d ih =>
      intro i h hn
      have hi : i < l.length := by omega
      have c1 : (i : Int) < (l.length : Int) := by omega
      have c2 : (0 : Int) ≤ (i : Int) := by omega
      have h3 := w64s i (by omega)
      by_cases e : a = g l i
      · refine ⟨(i : Int), ev_succ ?_, ?_⟩
        · have e' : ((a : Nat) : Int) = ((g l i : Nat) : Int) := by rw [← e]
          simp only [slices_Index_int_int.l0, c1, c2, rdI, I_len', e', if_true]
          exact Ev.now _
        · have : a ∈ l := by rw [e]; exact g_mem hi
          simp [this]
      · obtain ⟨j, j1, j2⟩ := ih (i + 1) (by omega) (by
          rw [← List.take_append_getElem hi]
          intro hm
          rcases List.mem_append.mp hm with hm | hm
          · exact hn hm
          · rw [← g_get hi] at hm
            exact e (by simpa using hm))
        refine ⟨j, ev_succ ?_, j2⟩
        have e' : ¬ ((a : Nat) : Int) = ((g l i : Nat) : Int) := by omega
        simp only [slices_Index_int_int.l0, c1, c2, rdI, I_len', e', if_true, if_false, h3]
        exact j1
  have := H l.length 0 (by omega) (by simp)
  simp only [I_len']
  exact this
theorem contains_ev (l : List Nat) (a : Nat) (hl : l.length ≤ 1000000000) : Ev (fun k => slices_Contains_int_int.f k (I l) (a : Int)) (decide (a ∈ l)) := by
  unfold slices_Contains_int_int.f
  obtain ⟨i, h1, h2⟩ := index_ev l a hl
  refine Ev.bind h1 ?_
  rw [h2]
  exact Ev.now _
theorem min_ev (s : Nat) (t : List Nat) (h : ∀ y ∈ t, s ≤ y) (hl : t.length ≤ 1000000000) : Ev (fun k => slices_Min_int_int.f k (I (s :: t))) (s : Int) := by
  unfold slices_Min_int_int.f
  have h0 : ¬ (((I (s :: t)).length : Int) < 1) := by rw [I_len]; simp; omega
  simp only [h0, if_false]
  have e0 : rd (I (s :: t)) 0 = (s : Int) := rfl
  rw [e0]
  have H : ∀ d i : Nat, i + d = (s :: t).length → 1 ≤ i → Ev (fun k => slices_Min_int_int.l0 k (I (s :: t)) (s : Int) (i : Int)) (s : Int) := by
    intro d
    induction d with
    | zero =>
      intro i hi h1
      refine ev_succ ?_
      have h2 : ¬ ((i : Int) < ((s :: t).length : Int)) := by omega
      simp only [slices_Min_int_int.l0, I_len', h2, if_false]
      exact Ev.now _
    | succ d ih =>
      intro i hi h1
      refine ev_succ ?_
      have hi' : i < (s :: t).length := by omega
      have h2 : (i : Int) < ((s :: t).length : Int) := by omega
      have h3 : (0 : Int) ≤ (i : Int) := by omega
      have h4 := w64s i (by simp at hi; omega)
      have h5 : s ≤ g (s :: t) i := by
        have hm := g_mem hi'
        rcases List.mem_cons.mp hm with e | hm
        · rw [e]
          exact Nat.le_refl _
        · exact h _ hm
      have h6 : mn (s : Int) ((g (s :: t) i : Nat) : Int) = (s : Int) := by unfold mn; split <;> omega
      simp only [slices_Min_int_int.l0, I_len', h2, h3, rdI, h4, h6, if_true]
      exact ih (i + 1) (by omega) (by omega)
  exact H t.length 1 (by simp; omega) (Nat.le_refl _)
theorem rowOf_ev {r : List Nat} (hr : IsP r) (h24 : r.length ≤ 24) (u : List Int) {x : Nat} {a : List (List Nat)} {c : List Nat} {b : List (List Nat)} (e : cycles r = a ++ c :: b) (hc : x ∈ c) (ha : ∀ d ∈ a, x ∉ d) : Ev (fun k => impl_rowOf.f k (I r) u (x : Int)) (I c) := by
  unfold impl_rowOf.f
  refine Ev.bind (impl_cycles hr h24) ?_
  have hlen := cycles_len (p := r) h24
  have H : ∀ (a1 a0 : List (List Nat)), a = a0 ++ a1 → Ev (fun k => impl_rowOf.l0 k (x : Int) (I2 (cycles r)) ((I2 (cycles r)).length : Int) (a0.length : Int)) (I c) := by
    intro a1
    induction a1 with
    | nil =>
      intro a0 ea
      have ea' : a = a0 := by simpa using ea
      subst ea'
      refine ev_succ ?_
      have hl : a.length < (cycles r).length := by rw [e]; simp
      have c1 : (a.length : Int) < ((I2 (cycles r)).length : Int) := by rw [I2_len]; omega
      have c2 : (0 : Int) ≤ (a.length : Int) := by omega
      have e1 : rd_L1 (I2 (cycles r)) (a.length : Int) = I c := by rw [e]; exact rdL_mid a c b
      simp only [impl_rowOf.l0, c1, c2, e1, if_true]
      refine Ev.bind (contains_ev c x (by have := cycle_len hr h24 c (by rw [e]; simp); omega)) ?_
      simp only [hc, decide_true, if_true]
      exact Ev.now _
    | cons d a1 ih =>
      intro a0 ea
      refine ev_succ ?_
      have e2 : cycles r = a0 ++ d :: (a1 ++ c :: b) := by rw [e, ea]; simp
      have hl : a0.length < (cycles r).length := by rw [e2]; simp
      have c1 : (a0.length : Int) < ((I2 (cycles r)).length : Int) := by rw [I2_len]; omega
      have c2 : (0 : Int) ≤ (a0.length : Int) := by omega
      have e1 : rd_L1 (I2 (cycles r)) (a0.length : Int) = I d := by rw [e2]; exact rdL_mid a0 d _
      have hn := ha d (by rw [ea]; simp)
      have h4 := w64s a0.length (by omega)
      simp only [impl_rowOf.l0, c1, c2, e1, if_true]
      refine Ev.bind (contains_ev d x (by have := cycle_len hr h24 d (by rw [e2]; simp); omega)) ?_
      simp only [hn, decide_false, Bool.false_eq_true, if_false, h4]
      have := ih (a0 ++ [d]) (by rw [ea]; simp)
      have e3 : ((a0 ++ [d]).length : Int) = ((a0.length + 1 : Nat) : Int) := by simp
      rw [e3] at this
      exact this
  exact H a [] rfl
def rowIx (l : List (List Nat)) (x : Nat) : Nat := l.findIdx (fun c => decide (x ∈ c))
theorem rowIx_eq {l : List (List Nat)} {x : Nat} {a : List (List Nat)} {c : List Nat} {b : List (List Nat)} (e : l = a ++ c :: b) (hc : x ∈ c) (ha : ∀ d ∈ a, x ∉ d) : rowIx l x = a.length := by
  unfold rowIx
  rw [e, List.findIdx_append]
  have h1 : a.findIdx (fun c => decide (x ∈ c)) = a.length := by
    rw [List.findIdx_eq_length]
    intro d hd
    simp [ha d hd]
  rw [h1]
  simp [List.findIdx_cons, hc]
theorem row_at {r : List Nat} (hr : IsP r) {x : Nat} (hx : x < r.length) : ∃ a c b, cycles r = a ++ c :: b ∧ x ∈ c ∧ ∀ d ∈ a, x ∉ d :=
  first_split (fun c => x ∈ c) (cycles r) (cyc_all hr r.length (Nat.le_refl _) x hx)
def regB (r u c : List Nat) : Bool := c.all (fun x => g (arnd r u) x == x)
def abv (r u c : List Nat) : Int := if regB r u c = true then (rowIx (cycles r) (g u (c.headD 0)) : Int) else -1
theorem reg_step {r u : List Nat} (hs : Sf r u) {x : Nat} (hx : x < r.length) (h : g (arnd r u) x = x) : g u (g r x) = g r (g u x) := by
  rw [g_arnd hs hx] at h
  have h1 := g_lt hs.pr hx
  have h2 : g u (g r x) < r.length := by rw [← hs.eq]; exact g_lt hs.pu (by rw [hs.eq]; exact h1)
  have h3 := ix_lt hs.pr h2
  have e := g_ix hs.pu (x := ix r (g u (g r x))) (by rw [hs.eq]; exact h3)
  rw [h] at e
  rw [e, g_ix hs.pr h2]
theorem reg_up {r u : List Nat} (hs : Sf r u) {s : Nat} (h0 : s < r.length) (hreg : ∀ x ∈ orb r s, g (arnd r u) x = x) (k : Nat) : g u (itr r k s) = itr r k (g u s) := by
  induction k with
  | zero => rfl
  | succ k ih =>
    have hm : itr r k s ∈ orb r s := (mem_orb hs.pr h0).mpr ⟨k, rfl⟩
    show g u (g r (itr r k s)) = g r (itr r k (g u s))
    rw [reg_step hs (itr_lt hs.pr k h0) (hreg _ hm), ih]
theorem cycle_ix {p : List Nat} (hp : IsP p) {c0 c1 : List (List Nat)} {c : List Nat} (e : cycles p = c0 ++ c :: c1) {x : Nat} (hx : x ∈ c) : rowIx (cycles p) x = c0.length := by
  refine rowIx_eq e hx (fun d hd hxd => ?_)
  have hnd := (cyc_flat_lt hp p.length (Nat.le_refl _)).2
  have e2 : cyc p p.length = c0 ++ c :: c1 := e
  rw [e2, List.flatten_append] at hnd
  have := (List.nodup_append.mp hnd).2.2 x (mem_flat.mpr ⟨d, hd, hxd⟩) x (mem_flat.mpr ⟨c, by simp, hx⟩)
  exact this rfl
theorem regB_iff {r u c : List Nat} : regB r u c = true ↔ ∀ x ∈ c, g (arnd r u) x = x := by
  unfold regB
  simp
end Go.Proofs.Ytbdnellgioimbaa.M
end
section
/- Plain mathematics: classes of what is linked. No conditions. -/
namespace Go.Proofs.Ytbdnellgioimbaa.M
set_option linter.unusedVariables false
set_option linter.unusedSimpArgs false
inductive Cn (up : Nat → Option Nat) : Nat → Nat → Prop
  | refl (i : Nat) : Cn up i i
  | up {i j k : Nat} : up i = some j → Cn up j k → Cn up i k
  | dn {i j k : Nat} : up j = some i → Cn up j k → Cn up i k
theorem Cn.trans {up : Nat → Option Nat} {i j k : Nat} (h : Cn up i j) (h' : Cn up j k) : Cn up i k := by
  induction h with
  | refl i => exact h'
  | up e _ ih => exact .up e (ih h')
  | dn e _ ih => exact .dn e (ih h')
theorem Cn.symm {up : Nat → Option Nat} {i j : Nat} (h : Cn up i j) : Cn up j i := by
  induction h with
  | refl i => exact .refl i
  | up e _ ih => exact ih.trans (.dn e (.refl _))
  | dn e _ ih => exact ih.trans (.up e (.refl _))
theorem Cn.one {up : Nat → Option Nat} {i j : Nat} (h : up i = some j) : Cn up i j := .up h (.refl _)
theorem Cn.lt {n : Nat} {up : Nat → Option Nat} (hup : ∀ i j, up i = some j → i < n ∧ j < n) {i j : Nat} (h : Cn up i j) (hi : i < n) : j < n := by
  induction h with
  | refl i => exact hi
  | up e _ ih => exact ih (hup _ _ e).2
  | dn e _ ih => exact ih (hup _ _ e).1
theorem Cn.closed {up : Nat → Option Nat} {S : Nat → Prop} (hS : ∀ i j, up i = some j → (S i ↔ S j)) {i j : Nat} (h : Cn up i j) : S i ↔ S j := by
  induction h with
  | refl i => exact Iff.rfl
  | up e _ ih => exact (hS _ _ e).trans ih
  | dn e _ ih => exact (hS _ _ e).symm.trans ih
structure Grp (n : Nat) (up : Nat → Option Nat) (t : Nat) (G : Nat → Nat) : Prop where
  le : ∀ j, j < n → G j ≤ j
  fix : ∀ j, j < n → G (G j) = G j
  cn : ∀ j, j < n → Cn up j (G j)
  ed : ∀ i j, i < t → up i = some j → G i = G j
def mgf (G : Nat → Nat) (a b : Nat) : Nat → Nat := fun j => if G j = a ∨ G j = b then min a b else G j
theorem Grp.start (n : Nat) (up : Nat → Option Nat) : Grp n up 0 (fun j => j) := ⟨fun j _ => Nat.le_refl _, fun j _ => rfl, fun j _ => .refl _, fun i j h _ => by omega⟩
theorem Grp.skip {n t : Nat} {up : Nat → Option Nat} {G : Nat → Nat} (h : Grp n up t G) (e : up t = none) : Grp n up (t + 1) G :=
  ⟨h.le, h.fix, h.cn, fun i j hi hj => by
    by_cases e2 : i = t
    · subst e2
      rw [e] at hj
      cases hj
    · exact h.ed i j (by omega) hj⟩
theorem Grp.merge {n t k : Nat} {up : Nat → Option Nat} (hup : ∀ i j, up i = some j → i < n ∧ j < n) {G : Nat → Nat} (h : Grp n up t G) (e : up t = some k) : Grp n up (t + 1) (mgf G (G t) (G k)) := by
  obtain ⟨ht, hk⟩ := hup t k e
  have ha := h.fix t ht
  have hb := h.fix k hk
  have la := h.le t ht
  have lb := h.le k hk
  have hab : Cn up (G t) (G k) := (h.cn t ht).symm.trans ((Cn.one e).trans (h.cn k hk))
  have hm : min (G t) (G k) = G t ∨ min (G t) (G k) = G k := by omega
  refine ⟨fun j hj => ?_, fun j hj => ?_, fun j hj => ?_, fun i j hi hj => ?_⟩
  · unfold mgf
    have := h.le j hj
    split <;> omega
  · have key : ∀ c, (c = G t ∨ c = G k) → mgf G (G t) (G k) c = min (G t) (G k) := by
      intro c hc
      unfold mgf
      rw [if_pos (by rcases hc with rfl | rfl; exact .inl ha; exact .inr hb)]
    by_cases hc : G j = G t ∨ G j = G k
    · have e1 : mgf G (G t) (G k) j = min (G t) (G k) := by unfold mgf; rw [if_pos hc]
      rw [e1]
      exact key _ hm
    · have e1 : mgf G (G t) (G k) j = G j := by unfold mgf; rw [if_neg hc]
      rw [e1]
      unfold mgf
      rw [h.fix j hj, if_neg hc]
  · unfold mgf
    split
    · rename_i hc
      refine (h.cn j hj).trans ?_
      rcases hc with hc | hc <;> rcases hm with hm | hm <;> rw [hc, hm]
      · exact .refl _
      · exact hab
      · exact hab.symm
      · exact .refl _
    · exact h.cn j hj
  · by_cases e2 : i = t
    · subst e2
      rw [e] at hj
      injection hj with hj
      subst hj
      unfold mgf
      simp
    · unfold mgf
      rw [h.ed i j (by omega) hj]
theorem Grp.iff {n : Nat} {up : Nat → Option Nat} (hup : ∀ i j, up i = some j → i < n ∧ j < n) {G : Nat → Nat} (h : Grp n up n G) {i j : Nat} (hi : i < n) (hj : j < n) : G i = G j ↔ Cn up i j := by
  constructor
  · intro e
    have := (h.cn i hi).trans ((by rw [e]; exact .refl _ : Cn up (G i) (G j)).trans (h.cn j hj).symm)
    exact this
  · intro hc
    induction hc with
    | refl i => rfl
    | up e _ ih => rw [h.ed _ _ (hup _ _ e).1 e]; exact ih (hup _ _ e).2 hj
    | dn e _ ih => rw [← h.ed _ _ (hup _ _ e).1 e]; exact ih (hup _ _ e).1 hj
theorem Grp.head {n : Nat} {up : Nat → Option Nat} (hup : ∀ i j, up i = some j → i < n ∧ j < n) {G : Nat → Nat} (h : Grp n up n G) {i : Nat} (hi : i < n) : G i = i ↔ ∀ j, Cn up i j → i ≤ j := by
  constructor
  · intro e j hc
    have hj := hc.lt hup hi
    have := (h.iff hup hi hj).mpr hc
    have := h.le j hj
    omega
  · intro hc
    have := hc _ (h.cn i hi)
    have := h.le i hi
    omega
def ups (up : Nat → Option Nat) : Nat → Nat → Option Nat
  | 0, i => some i
  | m + 1, i => (up i).bind (ups up m)
theorem ups_succ (up : Nat → Option Nat) (m i : Nat) : ups up (m + 1) i = (ups up m i).bind up := by
  induction m generalizing i with
  | zero =>
    simp only [ups, Option.bind_some]
    cases h : up i <;> rfl
  | succ m ih =>
    show (up i).bind (ups up (m + 1)) = ((up i).bind (ups up m)).bind up
    cases h : up i with
    | none => rfl
    | some j => exact ih j
theorem ups_cn {up : Nat → Option Nat} {m i j : Nat} (h : ups up m i = some j) : Cn up i j := by
  induction m generalizing i with
  | zero => simp [ups] at h; subst h; exact .refl _
  | succ m ih =>
    obtain ⟨z, hz, h2⟩ := Option.bind_eq_some_iff.mp h
    exact .up hz (ih h2)
theorem nodup_sub_len : ∀ (a b : List Nat), a.Nodup → (∀ x ∈ a, x ∈ b) → a.length ≤ b.length := by
  intro a
  induction a with
  | nil => intro b _ _; simp
  | cons x a ih =>
    intro b hn hs
    have hx := List.nodup_cons.mp hn
    have h1 := ih (b.erase x) hx.2 (fun y hy => by
      have hyx : y ≠ x := fun e => hx.1 (e ▸ hy)
      exact (List.mem_erase_of_ne hyx).mpr (hs y (by simp [hy])))
    have h2 := List.length_erase_of_mem (hs x (by simp))
    have h3 : 0 < b.length := List.length_pos_of_mem (hs x (by simp))
    simp only [List.length_cons]
    omega
theorem nodup_len_eq {a b : List Nat} (ha : a.Nodup) (hb : b.Nodup) (h : ∀ x, x ∈ a ↔ x ∈ b) : a.length = b.length :=
  Nat.le_antisymm (nodup_sub_len a b ha (fun x hx => (h x).mp hx)) (nodup_sub_len b a hb (fun x hx => (h x).mpr hx))
structure Mk (n : Nat) (up : Nat → Option Nat) (row : Nat) (S0 add : List Nat) : Prop where
  nd : add.Nodup
  lt : ∀ x ∈ add, x < n
  new : ∀ x ∈ add, x ∉ S0
  p : ∀ x ∈ add, (∃ m, ups up m row = some x) ∨ (∃ m, ups up m x = some row)
theorem Mk.cn {n : Nat} {up : Nat → Option Nat} {row : Nat} {S0 add : List Nat} (h : Mk n up row S0 add) {x : Nat} (hx : x ∈ add) : Cn up row x := by
  rcases h.p x hx with ⟨m, hm⟩ | ⟨m, hm⟩
  · exact ups_cn hm
  · exact (ups_cn hm).symm
theorem Mk.add {n : Nat} {up : Nat → Option Nat} {row : Nat} {S0 add : List Nat} (h : Mk n up row S0 add) {x : Nat} (hx : x < n) (h1 : x ∉ S0) (h2 : x ∉ add) (hp : (∃ m, ups up m row = some x) ∨ (∃ m, ups up m x = some row)) : Mk n up row S0 (add ++ [x]) := by
  refine ⟨List.nodup_append.mpr ⟨h.nd, by simp, fun a ha b hb e => ?_⟩, fun y hy => ?_, fun y hy => ?_, fun y hy => ?_⟩
  · have : b = x := by simpa using hb
    exact h2 (by rw [← this, ← e]; exact ha)
  · rcases List.mem_append.mp hy with hy | hy
    · exact h.lt y hy
    · have : y = x := by simpa using hy
      omega
  · rcases List.mem_append.mp hy with hy | hy
    · exact h.new y hy
    · have : y = x := by simpa using hy
      rw [this]
      exact h1
  · rcases List.mem_append.mp hy with hy | hy
    · exact h.p y hy
    · have : y = x := by simpa using hy
      rw [this]
      exact hp
theorem Mk.full {n : Nat} {up : Nat → Option Nat} (hup : ∀ i j, up i = some j → i < n ∧ j < n) (hinj : ∀ i i' j, up i = some j → up i' = some j → i = i') {row : Nat} {S0 add : List Nat} (h : Mk n up row S0 add) (hrow : row ∈ add)
    (hS0 : ∀ i j, up i = some j → (i ∈ S0 ↔ j ∈ S0)) (c1 : ∀ x ∈ add, ∀ y, up x = some y → y ∈ S0 ∨ y ∈ add)
    (c2 : ∀ k x, up k = some x → (x ∈ S0 ∨ x ∈ add) → (∃ m, ups up m k = some row) → (k ∈ S0 ∨ k ∈ add)) : ∀ x, x ∈ add ↔ Cn up row x := by
  have hrs : row ∉ S0 := h.new row hrow
  have chain : ∀ m x, ups up m row = some x → x ∈ add := by
    intro m
    induction m with
    | zero => intro x hx; simp [ups] at hx; rw [← hx]; exact hrow
    | succ m ih =>
      intro x hx
      rw [ups_succ] at hx
      obtain ⟨z, hz, hzx⟩ := Option.bind_eq_some_iff.mp hx
      have hza := ih z hz
      rcases c1 z hza x hzx with k | k
      · exact absurd ((hS0 z x hzx).mpr k) (h.new z hza)
      · exact k
  have closed : ∀ i j, up i = some j → ((i ∈ S0 ∨ i ∈ add) ↔ (j ∈ S0 ∨ j ∈ add)) := by
    intro i j e
    constructor
    · rintro (k | k)
      · exact .inl ((hS0 i j e).mp k)
      · exact c1 i k j e
    · rintro (k | k)
      · exact .inl ((hS0 i j e).mpr k)
      · rcases h.p j k with ⟨m, hm⟩ | ⟨m, hm⟩
        · cases m with
          | zero =>
            simp [ups] at hm
            subst hm
            exact c2 i _ e (.inr k) ⟨1, by simp [ups, e]⟩
          | succ m =>
            rw [ups_succ] at hm
            obtain ⟨z, hz, hzj⟩ := Option.bind_eq_some_iff.mp hm
            have := hinj i z j e hzj
            subst this
            exact .inr (chain m _ hz)
        · exact c2 i j e (.inr k) ⟨m + 1, by simp [ups, e, hm]⟩
  intro x
  constructor
  · exact fun hx => h.cn hx
  · intro hc
    have h1 := (Cn.closed (S := fun z => z ∈ S0 ∨ z ∈ add) closed hc).mp (.inr hrow)
    rcases h1 with h1 | h1
    · exact absurd ((Cn.closed (S := fun z => z ∈ S0) hS0 hc).mpr h1) hrs
    · exact h1
end Go.Proofs.Ytbdnellgioimbaa.M
end
section
/- The links of rows. No conditions. -/
namespace Go.Proofs.Ytbdnellgioimbaa.M
set_option linter.unusedVariables false
set_option linter.unusedSimpArgs false
open Go.RowKit Go.Proofs.YtbdnellgioimbaaW.PrintWords Go.Proofs.YtbdnellgioimbaaW.PrintLast Go.Proofs.YtbdnellgioimbaaW.PrintMore Go.Proofs.Ytbdnellgioimbaa.A
theorem split_at {α : Type} (l : List α) (i : Nat) (h : i < l.length) : l = l.take i ++ l[i] :: l.drop (i + 1) ∧ (l.take i).length = i :=
  ⟨by rw [← List.drop_eq_getElem_cons h, List.take_append_drop], by rw [List.length_take]; omega⟩
def upA (A : List Int) (i : Nat) : Option Nat := if i < A.length ∧ 0 ≤ rd A (i : Int) then some (rd A (i : Int)).toNat else none
def abL (r u : List Nat) : List Int := (cycles r).map (abv r u)
theorem abL_len (r u : List Nat) : (abL r u).length = (cycles r).length := by simp [abL]
theorem rd_abL {r u : List Nat} {i : Nat} (h : i < (cycles r).length) : rd (abL r u) (i : Int) = abv r u ((cycles r)[i]) := by
  unfold abL
  rw [rd_get _ _ (by rw [List.length_map]; exact h)]
  simp
theorem rowIx_lt {r : List Nat} (hr : IsP r) {x : Nat} (hx : x < r.length) : ∃ h : rowIx (cycles r) x < (cycles r).length, x ∈ (cycles r)[rowIx (cycles r) x] := by
  obtain ⟨a, c, b, e1, e2, e3⟩ := row_at hr hx
  have h := rowIx_eq e1 e2 e3
  have hl : a.length < (cycles r).length := by rw [e1]; simp
  rw [h]
  refine ⟨hl, ?_⟩
  have : (cycles r)[a.length]'hl = c := by
    have h2 : (cycles r)[a.length]? = some c := by rw [e1]; simp
    exact (List.getElem?_eq_some_iff.mp h2).2
  rw [this]
  exact e2
theorem ix_of_mem {r : List Nat} (hr : IsP r) {i : Nat} (h : i < (cycles r).length) {x : Nat} (hx : x ∈ (cycles r)[i]) : rowIx (cycles r) x = i := by
  obtain ⟨e1, e2⟩ := split_at (cycles r) i h
  have := cycle_ix hr e1 hx
  rw [e2] at this
  exact this
theorem upA_form {r u : List Nat} (hs : Sf r u) {i j : Nat} (h : upA (abL r u) i = some j) : ∃ hi : i < (cycles r).length, ∃ s, s < r.length ∧ (cycles r)[i] = orb r s ∧ s ∈ (cycles r)[i] ∧ (∀ x ∈ (cycles r)[i], g (arnd r u) x = x) ∧ g u s < r.length ∧ j = rowIx (cycles r) (g u s) := by
  unfold upA at h
  split at h
  · rename_i hc
    obtain ⟨h1, h2⟩ := hc
    rw [abL_len] at h1
    rw [rd_abL h1] at h2 h
    unfold abv at h2 h
    by_cases hreg : regB r u ((cycles r)[i]) = true
    · rw [if_pos hreg] at h
      obtain ⟨s, t, hs0, ec, eo, _⟩ := cycle_form hs.pr (List.getElem_mem h1)
      have hhead : ((cycles r)[i]).headD 0 = s := by rw [ec]; rfl
      rw [hhead] at h
      refine ⟨h1, s, hs0, eo, by rw [ec]; simp, regB_iff.mp hreg, by rw [← hs.eq]; exact g_lt hs.pu (by rw [hs.eq]; exact hs0), ?_⟩
      injection h with h
      omega
    · rw [if_neg hreg] at h2
      omega
  · cases h
theorem upA_lt {r u : List Nat} (hs : Sf r u) : ∀ i j, upA (abL r u) i = some j → i < (cycles r).length ∧ j < (cycles r).length := by
  intro i j h
  obtain ⟨hi, s, hs0, _, _, _, hu, e⟩ := upA_form hs h
  refine ⟨hi, ?_⟩
  rw [e]
  exact (rowIx_lt hs.pr hu).1
end Go.Proofs.Ytbdnellgioimbaa.M
end
section
/- The row above: the reference's list, the program's answer. No conditions. -/
namespace Go.Proofs.Ytbdnellgioimbaa.M
set_option linter.unusedVariables false
set_option linter.unusedSimpArgs false
open Go.RowKit Go.Proofs.YtbdnellgioimbaaW.PrintWords Go.Proofs.YtbdnellgioimbaaW.PrintLast Go.Proofs.YtbdnellgioimbaaW.PrintMore Go.Proofs.Ytbdnellgioimbaa.A
theorem rowAbove_impl {r u : List Nat} (hs : Sf r u) {x : Nat} (hx : x < r.length) {a : List (List Nat)} {c : List Nat} {b : List (List Nat)} (e1 : cycles r = a ++ c :: b) (e2 : x ∈ c) (e3 : ∀ d ∈ a, x ∉ d) {s : Nat} (hhead : c.headD 0 = s) {a2 : List (List Nat)} {c2 : List Nat} {b2 : List (List Nat)} (f1 : cycles r = a2 ++ c2 :: b2) (f2 : g u s ∈ c2) (f3 : ∀ d ∈ a2, g u s ∉ d) : Ev (fun k => impl_RowAbove.j0 k (x : Int) false (I r) (I u)) (if regB r u c = true then ((c2.headD 0 : Nat) : Int) else -1) := by
  have hle := hs.le
  have heq := hs.eq
  have hmem : c ∈ cycles r := by rw [e1]; simp
  obtain ⟨s', t, hs0, ec, eo, hleast⟩ := cycle_form hs.pr hmem
  have hhead' : c.headD 0 = s' := by rw [ec]; rfl
  obtain rfl : s' = s := by rw [← hhead', hhead]
  have hus : g u s' < r.length := by rw [← heq]; exact g_lt hs.pu (by omega)
  have hux : g u x < r.length := by rw [← heq]; exact g_lt hs.pu (by omega)
  have hmem2 : c2 ∈ cycles r := by rw [f1]; simp
  obtain ⟨s2, t2, hs2, ec2, eo2, hleast2⟩ := cycle_form hs.pr hmem2
  have hcl := cycle_len hs.pr hs.le c hmem
  have hcl2 := cycle_len hs.pr hs.le c2 hmem2
  have h2 : c2.headD 0 = s2 := by rw [ec2]; rfl
  rw [h2]
  refine ev_succ ?_
  simp only [impl_RowAbove.j0, Bool.false_eq_true, if_false]
  refine Ev.bind (impl_around hs) (Ev.bind (rowOf_ev hs.pr hs.le (I u) e1 e2 e3) ?_)
  have G : ∀ (x1 x0 : List Nat), c = x0 ++ x1 → regB r u x0 = true → Ev (fun k => impl_RowAbove.l0 k (x : Int) (I (arnd r u)) (I c) ((I c).length : Int) (x0.length : Int) (I r) (I u)) (if regB r u c = true then (s2 : Int) else -1) := by
    intro x1
    induction x1 with
    | nil =>
      intro x0 ex hreg
      have ex' : c = x0 := by simpa using ex
      refine ev_succ ?_
      have g1 : ¬ ((x0.length : Int) < (c.length : Int)) := by rw [ex']; omega
      have g2 : (0 : Int) ≤ (x : Int) := by omega
      have g3 : (x : Int) < (u.length : Int) := by omega
      rw [← ex'] at hreg
      have hall := regB_iff.mp hreg
      have hxo : x ∈ orb r s' := by rw [← eo]; exact e2
      obtain ⟨m, hm⟩ := (mem_orb hs.pr hs0).mp hxo
      have hup := reg_up hs hs0 (fun y hy => hall y (by rw [eo]; exact hy)) m
      rw [hm] at hup
      have hin : g u x ∈ orb r (g u s') := (mem_orb hs.pr hus).mpr ⟨m, hup.symm⟩
      have k1 : g u x ∈ c2 := (cycle_same hs.pr hmem2 hus hin).mp f2
      have k2 : ∀ d ∈ a2, g u x ∉ d := fun d hd h => f3 d hd ((cycle_same hs.pr (by rw [f1]; simp [hd]) hus hin).mpr h)
      simp only [impl_RowAbove.l0, g1, g2, g3, I_len', rdI, if_true, if_false, hreg]
      refine Ev.bind (rowOf_ev hs.pr hs.le (I u) f1 k1 k2) ?_
      have k3 := min_ev s2 t2 (fun y hy => hleast2 y (by rw [ec2]; simp [hy])) (by rw [ec2] at hcl2; simp at hcl2; omega)
      rw [← ec2] at k3
      exact Ev.bind k3 (Ev.now _)
    | cons y x1 ihx =>
      intro x0 ex hreg
      refine ev_succ ?_
      have hym : y ∈ c := by rw [ex]; simp
      have hy : y < r.length := by rw [eo] at hym; exact orb_lt hs.pr hs0 hym
      have hxl : x0.length < c.length := by rw [ex]; simp
      have g1 : (x0.length : Int) < (c.length : Int) := by omega
      have g2 : (0 : Int) ≤ (x0.length : Int) := by omega
      have g3 : g c x0.length = y := by rw [ex]; exact getD_mid x0 y x1 0
      have g4 : (0 : Int) ≤ (y : Int) := by omega
      have g5 : (y : Int) < ((arnd r u).length : Int) := by rw [arnd_len]; omega
      have g6 := w64s x0.length (by omega)
      have e3 : ((x0 ++ [y]).length : Int) = ((x0.length + 1 : Nat) : Int) := by simp
      by_cases hq : g (arnd r u) y = y
      · have hq' : (((g (arnd r u) y : Nat) : Int) = (y : Int)) := by rw [hq]
        have hn := ihx (x0 ++ [y]) (by rw [ex]; simp) (by unfold regB at hreg ⊢; simp at hreg ⊢; exact ⟨hreg, hq⟩)
        rw [e3] at hn
        simp only [I_len'] at hn
        simp only [impl_RowAbove.l0, g1, g2, rdI, g3, g4, g5, I_len', hq', if_true, g6]
        exact hn
      · have hq' : ¬ (((g (arnd r u) y : Nat) : Int) = (y : Int)) := by omega
        have hr0 : ¬ regB r u c = true := fun h => hq (regB_iff.mp h y hym)
        simp only [impl_RowAbove.l0, g1, g2, rdI, g3, g4, g5, I_len', hq', if_true, if_false, hr0]
        exact Ev.now _
  exact G c [] rfl (by simp [regB])
end Go.Proofs.Ytbdnellgioimbaa.M
end
section
/- The cylinders: rows, and the program. No conditions. -/
namespace Go.Proofs.Ytbdnellgioimbaa.M
set_option linter.unusedVariables false
set_option linter.unusedSimpArgs false
open Go.RowKit Go.Proofs.YtbdnellgioimbaaW.PrintWords Go.Proofs.YtbdnellgioimbaaW.PrintLast Go.Proofs.YtbdnellgioimbaaW.PrintMore Go.Proofs.Ytbdnellgioimbaa.A
def hd (l : List (List Nat)) (j : Nat) : Nat := (l.getD j []).headD 0
theorem hd_eq {l : List (List Nat)} {j : Nat} (h : j < l.length) : hd l j = (l[j]).headD 0 := by
  unfold hd
  rw [List.getD_eq_getElem?_getD, List.getElem?_eq_getElem h]
  rfl
theorem hd_mem {r : List Nat} (hr : IsP r) {i : Nat} (h : i < (cycles r).length) : hd (cycles r) i ∈ (cycles r)[i] ∧ hd (cycles r) i < r.length := by
  obtain ⟨s, t, hs0, ec, eo, _⟩ := cycle_form hr (List.getElem_mem h)
  have e : hd (cycles r) i = s := by rw [hd_eq h, ec]; rfl
  rw [e]
  exact ⟨by rw [ec]; simp, hs0⟩
theorem hd_inj {r : List Nat} (hr : IsP r) {i j : Nat} (hi : i < (cycles r).length) (hj : j < (cycles r).length) (h : hd (cycles r) i = hd (cycles r) j) : i = j := by
  rw [← ix_of_mem hr hi (hd_mem hr hi).1, h, ix_of_mem hr hj (hd_mem hr hj).1]
theorem at_ix {l : List (List Nat)} {a : List (List Nat)} {c : List Nat} {b : List (List Nat)} (e : l = a ++ c :: b) {i : Nat} (hi : i < l.length) (h : a.length = i) : l[i] = c := by
  have h2 : l[i]? = some c := by rw [e, ← h]; simp
  exact (List.getElem?_eq_some_iff.mp h2).2
theorem rowAbove_at {r u : List Nat} (hs : Sf r u) {i : Nat} (hi : i < (cycles r).length) : rowIx (cycles r) (g u (hd (cycles r) i)) < (cycles r).length ∧ Ev (fun k => impl_RowAbove.f k (I r) (I u) ((hd (cycles r) i : Nat) : Int)) (if regB r u ((cycles r)[i]) = true then ((hd (cycles r) (rowIx (cycles r) (g u (hd (cycles r) i))) : Nat) : Int) else -1) := by
  obtain ⟨hm, hx⟩ := hd_mem hs.pr hi
  have hus : g u (hd (cycles r) i) < r.length := by rw [← hs.eq]; exact g_lt hs.pu (by rw [hs.eq]; exact hx)
  obtain ⟨a, c, b, e1, e2, e3⟩ := row_at hs.pr hx
  have ha : a.length = i := by rw [← rowIx_eq e1 e2 e3, ix_of_mem hs.pr hi hm]
  have hc := at_ix e1 hi ha
  obtain ⟨a2, c2, b2, f1, f2, f3⟩ := row_at hs.pr hus
  have ha2 := rowIx_eq f1 f2 f3
  have hl2 : a2.length < (cycles r).length := by rw [f1]; simp
  have hc2 := at_ix f1 hl2 rfl
  have hhead : c.headD 0 = hd (cycles r) i := by rw [hd_eq hi, hc]
  refine ⟨by rw [ha2]; exact hl2, ?_⟩
  have key := rowAbove_impl hs hx e1 e2 e3 hhead f1 f2 f3
  rw [ha2, hd_eq hl2, hc2, hc]
  unfold impl_RowAbove.f
  refine Ev.bind (impl_surf _ _) ?_
  have h0 := surfB_I.mpr hs
  have k1 : ¬ (((hd (cycles r) i : Nat) : Int) < 0) := by omega
  have k2 : ¬ (((hd (cycles r) i : Nat) : Int) ≥ (r.length : Int)) := by omega
  simp only [h0, k1, k2, I_len', if_true, if_false, decide_false]
  exact key
theorem rowAbove_up {r u : List Nat} (hs : Sf r u) {i j : Nat} (h : upA (abL r u) i = some j) : Ev (fun k => impl_RowAbove.f k (I r) (I u) ((hd (cycles r) i : Nat) : Int)) ((hd (cycles r) j : Nat) : Int) := by
  obtain ⟨hi, s, hs0, eo, hm, hreg, hu, e⟩ := upA_form hs h
  obtain ⟨k1, k2⟩ := rowAbove_at hs hi
  have hb : regB r u ((cycles r)[i]) = true := regB_iff.mpr hreg
  rw [if_pos hb] at k2
  unfold upA at h
  rw [abL_len] at h
  rw [rd_abL hi] at h
  have e2 : abv r u ((cycles r)[i]) = ((rowIx (cycles r) (g u (hd (cycles r) i)) : Nat) : Int) := by
    unfold abv
    rw [if_pos hb, hd_eq hi]
  rw [e2, if_pos ⟨hi, by omega⟩] at h
  injection h with h
  have h' : rowIx (cycles r) (g u (hd (cycles r) i)) = j := by omega
  rw [h'] at k2
  exact k2
theorem rowAbove_no {r u : List Nat} (hs : Sf r u) {i : Nat} (hi : i < (cycles r).length) (h : upA (abL r u) i = none) : Ev (fun k => impl_RowAbove.f k (I r) (I u) ((hd (cycles r) i : Nat) : Int)) (-1) := by
  obtain ⟨k1, k2⟩ := rowAbove_at hs hi
  have hb : ¬ regB r u ((cycles r)[i]) = true := by
    intro hb
    unfold upA at h
    rw [abL_len, rd_abL hi] at h
    have e2 : abv r u ((cycles r)[i]) = ((rowIx (cycles r) (g u (hd (cycles r) i)) : Nat) : Int) := by
      unfold abv
      rw [if_pos hb, hd_eq hi]
    rw [e2, if_pos ⟨hi, by omega⟩] at h
    cases h
  rw [if_neg hb] at k2
  exact k2
theorem idxF_ev : ∀ (L : List (List Nat)) (p j : Nat), (∀ c ∈ L, 0 < c.length) → j < L.length → (∀ i, i < j → hd L i ≠ hd L j) → idxF (I2 L) ((hd L j : Nat) : Int) p = some ((p + j : Nat) : Int) := by
  intro L
  induction L with
  | nil => intro p j _ h; simp at h
  | cons c L ih =>
    intro p j hne hj hd'
    have hc := hne c (by simp)
    have e : I2 (c :: L) = I c :: I2 L := rfl
    rw [e]
    have h1 : 0 < (I c).length := by rw [I_len]; exact hc
    have h2 : rd (I c) 0 = ((c.headD 0 : Nat) : Int) := by
      cases c with
      | nil => simp at hc
      | cons x xs => rfl
    unfold idxF
    rw [if_pos h1, h2]
    cases j with
    | zero =>
      have : hd (c :: L) 0 = c.headD 0 := rfl
      rw [this, if_pos rfl]
      rfl
    | succ j =>
      have h3 := hd' 0 (by omega)
      have h4 : hd (c :: L) 0 = c.headD 0 := rfl
      have h5 : hd (c :: L) (j + 1) = hd L j := rfl
      rw [h4, h5] at h3
      rw [h5, if_neg (by omega), ih (p + 1) j (fun d hd2 => hne d (by simp [hd2])) (by simpa using hj) (fun i hi => ?_)]
      · congr 2
        omega
      · have := hd' (i + 1) (by omega)
        rw [h5] at this
        exact this
theorem tab_set {n i v : Nat} {F : Nat → Nat} : (I (tab n F)).set i (v : Int) = I (tab n (fun j => if j = i then v else F j)) := by
  apply List.ext_getElem
  · simp [I, tab]
  · intro k h1 h2
    simp only [I, tab, List.getElem_set, List.getElem_map, List.getElem_range]
    by_cases e : i = k
    · rw [if_pos e, if_pos e.symm]; rfl
    · rw [if_neg e, if_neg (fun h => e h.symm)]
theorem rd_tab {n i : Nat} {F : Nat → Nat} (h : i < n) : rd (I (tab n F)) (i : Int) = ((F i : Nat) : Int) := by rw [rdI, g_tab h]
theorem indexFunc_ev {r : List Nat} (hr : IsP r) (h24 : r.length ≤ 24) {j : Nat} (hj : j < (cycles r).length) : slices_IndexFunc_int_int.f (I2 (cycles r)) ((hd (cycles r) j : Nat) : Int) = some (j : Int) := by
  unfold slices_IndexFunc_int_int.f
  rw [if_pos (by rw [I2_len]; have := cycles_len (p := r) h24; omega)]
  have := idxF_ev (cycles r) 0 j (fun c hc => by obtain ⟨s, t, _, ec, _⟩ := cycle_form hr hc; rw [ec]; simp) hj (fun i hi e => by have := hd_inj hr (by omega) hj e; omega)
  rw [Nat.zero_add] at this
  exact this
theorem rdL_at {l : List (List Nat)} {i : Nat} (h : i < l.length) : rd_L1 (I2 l) (i : Int) = I (l[i]) := by
  obtain ⟨e1, e2⟩ := split_at l i h
  have := rdL_mid (l.take i) (l[i]) (l.drop (i + 1))
  rw [← e1, e2] at this
  exact this
theorem rd_head {c : List Nat} (h : 0 < c.length) : rd (I c) 0 = ((c.headD 0 : Nat) : Int) := by
  cases c with
  | nil => simp at h
  | cons x xs => rfl
end Go.Proofs.Ytbdnellgioimbaa.M
end
section
/- The cylinders: what the program comes to. No conditions. -/
namespace Go.Proofs.Ytbdnellgioimbaa.M
set_option linter.unusedVariables false
set_option linter.unusedSimpArgs false
open Go.RowKit Go.Proofs.YtbdnellgioimbaaW.PrintWords Go.Proofs.YtbdnellgioimbaaW.PrintLast Go.Proofs.YtbdnellgioimbaaW.PrintMore Go.Proofs.Ytbdnellgioimbaa.A
def cntG (G : Nat → Nat) (n i : Nat) : Nat := ((List.range n).filter (fun q => decide (G q = i))).length
theorem cntG_le (G : Nat → Nat) (n i : Nat) : cntG G n i ≤ n := by
  have := List.length_filter_le (fun q => decide (G q = i)) (List.range n)
  rw [List.length_range] at this
  exact this
theorem cntG_succ (G : Nat → Nat) (n i : Nat) : cntG G (n + 1) i = cntG G n i + (if G n = i then 1 else 0) := by
  unfold cntG
  rw [List.range_succ, List.filter_append, List.length_append]
  by_cases h : G n = i <;> simp [h]
def outG (C : List (List Nat)) (G : Nat → Nat) (n i : Nat) : List S44 := ((List.range i).filter (fun q => decide (G q = q))).map (fun q => (⟨(((C.getD q []).length : Nat) : Int), ((cntG G n q : Nat) : Int)⟩ : S44))
theorem outG_len (C : List (List Nat)) (G : Nat → Nat) (n i : Nat) : (outG C G n i).length ≤ i := by
  unfold outG
  rw [List.length_map]
  have := List.length_filter_le (fun q => decide (G q = q)) (List.range i)
  rw [List.length_range] at this
  exact this
theorem outG_yes {C : List (List Nat)} {G : Nat → Nat} {n i : Nat} (h : G i = i) : outG C G n (i + 1) = outG C G n i ++ [(⟨(((C.getD i []).length : Nat) : Int), ((cntG G n i : Nat) : Int)⟩ : S44)] := by
  unfold outG
  rw [List.range_succ, List.filter_append, List.map_append]
  simp [h]
theorem outG_no {C : List (List Nat)} {G : Nat → Nat} {n i : Nat} (h : ¬ G i = i) : outG C G n (i + 1) = outG C G n i := by
  unfold outG
  rw [List.range_succ, List.filter_append, List.map_append]
  simp [h]
theorem impl_l4 {C : List (List Nat)} {G : Nat → Nat} {n i : Nat} (hn : n = C.length) (h24 : n ≤ 24) (hi : i < n) {res : List S44 × Bool}
    (h : Ev (fun k => impl_CylindersOf.l3 k (I (tab n G)) (outG C G n i ++ [(⟨(((C.getD i []).length : Nat) : Int), ((cntG G n i : Nat) : Int)⟩ : S44)]) (I2 C) (n : Int) ((i + 1 : Nat) : Int)) res) :
    ∀ d q : Nat, q + d = n → Ev (fun k => impl_CylindersOf.l4 k (I (tab n G)) (outG C G n i) (i : Int) (I2 C) (n : Int) (i : Int) (I (tab n G)) (n : Int) (q : Int) (((C.getD i []).length : Nat) : Int) ((cntG G q i : Nat) : Int)) res := by
  intro d
  induction d with
  | zero =>
    intro q hq
    obtain rfl : q = n := by omega
    refine ev_succ ?_
    have c1 : ¬ ((q : Int) < (q : Int)) := by omega
    have c2 : (outG C G q i).length < 8796093022208 := by have := outG_len C G q i; omega
    have c3 := w64s i (by omega)
    simp only [impl_CylindersOf.l4, c1, c2, c3, if_true, if_false]
    exact h
  | succ d ih =>
    intro q hq
    refine ev_succ ?_
    have hle := cntG_le G q i
    have c1 : (q : Int) < (n : Int) := by omega
    have c2 : (0 : Int) ≤ (q : Int) := by omega
    have c3 : (q : Int) < ((I (tab n G)).length : Int) := by rw [I_len, tab_len]; exact c1
    have c4 : rd (I (tab n G)) (q : Int) = ((G q : Nat) : Int) := rd_tab (by omega)
    have key := ih (q + 1) (by omega)
    rw [cntG_succ] at key
    by_cases e : G q = i
    · rw [if_pos e] at key
      have e' : ((G q : Nat) : Int) = (i : Int) := by rw [e]
      have c6 := w64s (cntG G q i) (by omega)
      have c5 := w64s q (by omega)
      simp only [impl_CylindersOf.l4, c1, c2, c3, c4, c5, c6, e', if_true]
      exact key
    · rw [if_neg e, Nat.add_zero] at key
      have e' : ¬ (((G q : Nat) : Int) = (i : Int)) := by omega
      have c5 := w64s q (by omega)
      simp only [impl_CylindersOf.l4, c1, c2, c3, c4, c5, e', if_true, if_false]
      exact key
theorem impl_l3 {C : List (List Nat)} {G : Nat → Nat} {n : Nat} (hn : n = C.length) (h24 : n ≤ 24) :
    ∀ d i : Nat, i + d = n → Ev (fun k => impl_CylindersOf.l3 k (I (tab n G)) (outG C G n i) (I2 C) (n : Int) (i : Int)) (outG C G n n, true) := by
  intro d
  induction d with
  | zero =>
    intro i hi
    obtain rfl : i = n := by omega
    refine ev_succ ?_
    have c1 : ¬ ((i : Int) < (i : Int)) := by omega
    simp only [impl_CylindersOf.l3, c1, if_false]
    exact Ev.now _
  | succ d ih =>
    intro i hi
    refine ev_succ ?_
    have hin : i < n := by omega
    have c1 : (i : Int) < (n : Int) := by omega
    have c2 : (0 : Int) ≤ (i : Int) := by omega
    have c3 : (i : Int) < ((I (tab n G)).length : Int) := by rw [I_len, tab_len]; exact c1
    have c3' : (i : Int) < ((I2 C).length : Int) := by rw [I2_len]; omega
    have c4 : rd (I (tab n G)) (i : Int) = ((G i : Nat) : Int) := rd_tab (by omega)
    have hC : i < C.length := by omega
    have c6 : rd_L1 (I2 C) (i : Int) = I (C[i]) := rdL_at hC
    have c7 : ((I (C[i])).length : Int) = (((C.getD i []).length : Nat) : Int) := by rw [I_len, List.getD_eq_getElem?_getD, List.getElem?_eq_getElem hC]; rfl
    have c8 : ((I (tab n G)).length : Int) = (n : Int) := by rw [I_len, tab_len]
    have key := ih (i + 1) (by omega)
    by_cases e : G i = i
    · have e' : ((G i : Nat) : Int) = (i : Int) := by rw [e]
      rw [outG_yes e] at key
      have := impl_l4 (C := C) (G := G) (n := n) (i := i) hn h24 hin key n 0 (Nat.zero_add n)
      rw [show cntG G 0 i = 0 from rfl] at this
      simp only [impl_CylindersOf.l3, c1, c2, c3, c3', c4, c6, c7, e', if_true]
      simp only [c8]
      exact this
    · rw [outG_no e] at key
      have e' : ¬ (((G i : Nat) : Int) = (i : Int)) := by omega
      have c5 := w64s i (by omega)
      simp only [impl_CylindersOf.l3, c1, c2, c3, c3', c4, c5, e', if_true, if_false]
      exact key
theorem impl_l2 {C : List (List Nat)} {r u : List Int} {G : Nat → Nat} {n a b t : Nat} (hn : n = C.length) (h24 : n ≤ 24) (ht : t < n) {res : List S44 × Bool}
    (h : Ev (fun k => impl_CylindersOf.l1 k (I2 C) (I (tab n (mgf G a b))) (I2 C) (n : Int) ((t + 1 : Nat) : Int) r u) res) :
    ∀ d i : Nat, i + d = n → Ev (fun k => impl_CylindersOf.l2 k (I2 C) (I (tab n (fun q => if q < i then mgf G a b q else G q))) (a : Int) (b : Int) (I2 C) (n : Int) (t : Int) (n : Int) (i : Int) r u) res := by
  intro d
  induction d with
  | zero =>
    intro i hi
    obtain rfl : i = n := by omega
    refine ev_succ ?_
    have c1 : ¬ ((i : Int) < (i : Int)) := by omega
    have e : tab i (fun q => if q < i then mgf G a b q else G q) = tab i (mgf G a b) := tab_ext (fun q hq => by rw [if_pos hq])
    have c2 := w64s t (by omega)
    simp only [impl_CylindersOf.l2, c1, c2, e, if_false]
    exact h
  | succ d ih =>
    intro i hi
    refine ev_succ ?_
    have c1 : (i : Int) < (n : Int) := by omega
    have c2 : (0 : Int) ≤ (i : Int) := by omega
    have c3 : (i : Int) < ((I (tab n (fun q => if q < i then mgf G a b q else G q))).length : Int) := by rw [I_len, tab_len]; exact c1
    have c4 : rd (I (tab n (fun q => if q < i then mgf G a b q else G q))) (i : Int) = ((G i : Nat) : Int) := by rw [rd_tab (by omega), if_neg (by omega)]
    have c6 : mn (a : Int) (b : Int) = ((min a b : Nat) : Int) := by unfold mn; split <;> omega
    have c7 : ((i : Int)).toNat = i := rfl
    have key := ih (i + 1) (by omega)
    by_cases e : G i = a ∨ G i = b
    · have e1 : (I (tab n (fun q => if q < i then mgf G a b q else G q))).set i ((min a b : Nat) : Int) = I (tab n (fun q => if q < i + 1 then mgf G a b q else G q)) := by
        rw [tab_set]
        congr 1
        refine tab_ext (fun q hq => ?_)
        by_cases h1 : q = i
        · subst h1
          rw [if_pos rfl, if_pos (by omega)]
          unfold mgf
          rw [if_pos e]
        · rw [if_neg h1]
          by_cases h2 : q < i
          · rw [if_pos h2, if_pos (by omega)]
          · rw [if_neg h2, if_neg (by omega)]
      rw [← e1] at key
      by_cases ea : G i = a
      · have e' : ((G i : Nat) : Int) = (a : Int) := by rw [ea]
        have c5 := w64s i (by omega)
        simp only [impl_CylindersOf.l2, c1, c2, c3, c4, c5, c6, c7, e', if_true]
        exact key
      · have eb : G i = b := by rcases e with e | e; exact absurd e ea; exact e
        have e' : ¬ (((G i : Nat) : Int) = (a : Int)) := by omega
        have e'' : ((G i : Nat) : Int) = (b : Int) := by rw [eb]
        have e3 : ¬ ((b : Int) = (a : Int)) := by omega
        have c5 := w64s i (by omega)
        simp only [impl_CylindersOf.l2, c1, c2, c3, c4, c5, c6, c7, e'', e3, if_true, if_false]
        exact key
    · have ea : ¬ (((G i : Nat) : Int) = (a : Int)) := fun h => e (Or.inl (by omega))
      have eb : ¬ (((G i : Nat) : Int) = (b : Int)) := fun h => e (Or.inr (by omega))
      have e1 : tab n (fun q => if q < i then mgf G a b q else G q) = tab n (fun q => if q < i + 1 then mgf G a b q else G q) := by
        refine tab_ext (fun q hq => ?_)
        by_cases h1 : q = i
        · subst h1
          rw [if_neg (by omega), if_pos (by omega)]
          unfold mgf
          rw [if_neg e]
        · by_cases h2 : q < i
          · rw [if_pos h2, if_pos (by omega)]
          · rw [if_neg h2, if_neg (by omega)]
      rw [← e1] at key
      have c5 := w64s i (by omega)
      simp only [impl_CylindersOf.l2, c1, c2, c3, c4, c5, ea, eb, if_true, if_false]
      exact key
theorem impl_l1 {r u : List Nat} (hs : Sf r u) : ∀ (d t : Nat) (G : Nat → Nat), t + d = (cycles r).length → Grp (cycles r).length (upA (abL r u)) t G →
    ∃ G', Grp (cycles r).length (upA (abL r u)) (cycles r).length G' ∧ ∀ res : List S44 × Bool, Ev (fun k => impl_CylindersOf.l3 k (I (tab (cycles r).length G')) [] (I2 (cycles r)) ((cycles r).length : Int) 0) res →
      Ev (fun k => impl_CylindersOf.l1 k (I2 (cycles r)) (I (tab (cycles r).length G)) (I2 (cycles r)) ((cycles r).length : Int) (t : Int) (I r) (I u)) res := by
  have h24 := cycles_len (p := r) hs.le
  intro d
  induction d with
  | zero =>
    intro t G ht hG
    obtain rfl : t = (cycles r).length := by omega
    refine ⟨G, hG, fun res h => ev_succ ?_⟩
    have c1 : ¬ (((cycles r).length : Int) < ((cycles r).length : Int)) := by omega
    simp only [impl_CylindersOf.l1, c1, if_false, I2_len]
    exact h
  | succ d ih =>
    intro t G ht hG
    have htl : t < (cycles r).length := by omega
    have c1 : (t : Int) < ((cycles r).length : Int) := by omega
    have c2 : (0 : Int) ≤ (t : Int) := by omega
    have c3 : (t : Int) < ((I2 (cycles r)).length : Int) := by rw [I2_len]; omega
    have c3' : (t : Int) < ((I (tab (cycles r).length G)).length : Int) := by rw [I_len, tab_len]; exact c1
    have c6 : rd_L1 (I2 (cycles r)) (t : Int) = I ((cycles r)[t]) := rdL_at htl
    obtain ⟨s, tl, hs0, ec, _, _⟩ := cycle_form hs.pr (List.getElem_mem htl)
    have hcl : 0 < ((cycles r)[t]).length := by rw [ec]; simp
    have c7 : (0 : Int) < ((I ((cycles r)[t])).length : Int) := by rw [I_len]; omega
    have c8 : rd (I ((cycles r)[t])) 0 = ((hd (cycles r) t : Nat) : Int) := by rw [hd_eq htl]; exact rd_head hcl
    cases e : upA (abL r u) t with
    | none =>
      obtain ⟨G', g1, g2⟩ := ih (t + 1) G (by omega) (hG.skip e)
      refine ⟨G', g1, fun res h => ev_succ ?_⟩
      have k1 : (-1 : Int) < 0 := by omega
      simp only [impl_CylindersOf.l1, c1, c2, c3, c6, c7, c8, if_true]
      refine Ev.bind (rowAbove_no hs htl e) ?_
      have c5 := w64s t (by omega)
      simp only [k1, c5, if_true]
      exact g2 res h
    | some j =>
      obtain ⟨hjt, hj⟩ := upA_lt hs _ _ e
      obtain ⟨G', g1, g2⟩ := ih (t + 1) (mgf G (G t) (G j)) (by omega) (hG.merge (upA_lt hs) e)
      refine ⟨G', g1, fun res h => ev_succ ?_⟩
      have k1 : ¬ (((hd (cycles r) j : Nat) : Int) < 0) := by omega
      have k2 : (0 : Int) ≤ (j : Int) := by omega
      have k3 : (j : Int) < ((I (tab (cycles r).length G)).length : Int) := by rw [I_len, tab_len]; omega
      have k4 : rd (I (tab (cycles r).length G)) (t : Int) = ((G t : Nat) : Int) := rd_tab htl
      have k5 : rd (I (tab (cycles r).length G)) (j : Int) = ((G j : Nat) : Int) := rd_tab hj
      have k6 : ((I (tab (cycles r).length G)).length : Int) = ((cycles r).length : Int) := by rw [I_len, tab_len]
      have k7 := indexFunc_ev hs.pr hs.le hj
      simp only [impl_CylindersOf.l1, c1, c2, c3, c6, c7, c8, if_true]
      refine Ev.bind (rowAbove_up hs e) ?_
      simp only [k1, k7, Option.bind_some, if_false]
      simp only [c3', k2, k3, k4, k5, if_true]
      simp only [k6]
      have := impl_l2 (r := I r) (u := I u) rfl h24 htl (g2 res h) (cycles r).length 0 (by omega)
      have e0 : tab (cycles r).length (fun q => if q < 0 then mgf G (G t) (G j) q else G q) = tab (cycles r).length G := tab_ext (fun q hq => by rw [if_neg (by omega)])
      rw [e0] at this
      exact this
theorem impl_cyl {r u : List Nat} (hs : Sf r u) : ∃ G, Grp (cycles r).length (upA (abL r u)) (cycles r).length G ∧ Ev (fun k => impl_CylindersOf.f k (I r) (I u)) (outG (cycles r) G (cycles r).length (cycles r).length, true) := by
  have h24 := cycles_len (p := r) hs.le
  obtain ⟨G, g1, g2⟩ := impl_l1 hs (cycles r).length 0 (fun j => j) (by omega) (Grp.start _ _)
  refine ⟨G, g1, ?_⟩
  have h3 := g2 _ (impl_l3 (C := cycles r) (G := G) rfl h24 (cycles r).length 0 (by omega))
  unfold impl_CylindersOf.f
  refine Ev.bind (impl_surf _ _) ?_
  have h0 := surfB_I.mpr hs
  simp only [h0, if_true]
  refine Ev.bind (impl_cycles hs.pr hs.le) ?_
  have z1 : (0 : Int) ≤ ((cycles r).length : Int) := by omega
  have z2 : (((cycles r).length : Int)).toNat = (cycles r).length := rfl
  have z3 : (cycles r).length ≤ 35184372088832 := by omega
  simp only [I2_len, z1, z2, z3, if_true, Option.bind_some, List.length_replicate]
  have L0 : ∀ d i : Nat, i + d = (cycles r).length → Ev (fun k => impl_CylindersOf.l0 k (I2 (cycles r)) (I (tab (cycles r).length (fun j => if j < i then j else 0))) ((cycles r).length : Int) (i : Int) (I r) (I u)) (outG (cycles r) G (cycles r).length (cycles r).length, true) := by
    intro d
    induction d with
    | zero =>
      intro i hi
      obtain rfl : i = (cycles r).length := by omega
      refine ev_succ ?_
      have c1 : ¬ (((cycles r).length : Int) < ((cycles r).length : Int)) := by omega
      have e : tab (cycles r).length (fun j => if j < (cycles r).length then j else 0) = tab (cycles r).length (fun j => j) := tab_ext (fun q hq => by rw [if_pos hq])
      simp only [impl_CylindersOf.l0, c1, e, if_false, I2_len]
      exact h3
    | succ d ih =>
      intro i hi
      refine ev_succ ?_
      have c1 : (i : Int) < ((cycles r).length : Int) := by omega
      have c2 : (0 : Int) ≤ (i : Int) := by omega
      have c3 : (i : Int) < ((I (tab (cycles r).length (fun j => if j < i then j else 0))).length : Int) := by rw [I_len, tab_len]; exact c1
      have c7 : ((i : Int)).toNat = i := rfl
      have e1 : (I (tab (cycles r).length (fun j => if j < i then j else 0))).set i (i : Int) = I (tab (cycles r).length (fun j => if j < i + 1 then j else 0)) := by
        rw [tab_set]
        congr 1
        refine tab_ext (fun q hq => ?_)
        by_cases h1 : q = i
        · subst h1
          rw [if_pos rfl, if_pos (by omega)]
        · rw [if_neg h1]
          by_cases h2 : q < i
          · rw [if_pos h2, if_pos (by omega)]
          · rw [if_neg h2, if_neg (by omega)]
      have c5 := w64s i (by omega)
      simp only [impl_CylindersOf.l0, c1, c2, c3, c5, c7, e1, if_true]
      exact ih (i + 1) (by omega)
  have e0 : (List.replicate (cycles r).length 0 : List Int) = I (tab (cycles r).length (fun j => if j < 0 then j else 0)) := by
    unfold I tab
    rw [List.map_map]
    apply List.ext_getElem
    · simp
    · intro k h1 h2
      simp
  rw [e0]
  exact L0 (cycles r).length 0 (by omega)
end Go.Proofs.Ytbdnellgioimbaa.M
end
section
/- The cylinders: the reference marks a class. No conditions. -/
namespace Go.Proofs.Ytbdnellgioimbaa.M
set_option linter.unusedVariables false
set_option linter.unusedSimpArgs false
open Go.RowKit Go.Proofs.YtbdnellgioimbaaW.PrintWords Go.Proofs.YtbdnellgioimbaaW.PrintLast Go.Proofs.YtbdnellgioimbaaW.PrintMore Go.Proofs.Ytbdnellgioimbaa.A
theorem Mk.len {n : Nat} {up : Nat → Option Nat} {row : Nat} {S0 add : List Nat} (h : Mk n up row S0 add) : add.length ≤ n := by
  have := nodup_sub_len add (List.range n) h.nd (fun x hx => List.mem_range.mpr (h.lt x hx))
  rw [List.length_range] at this
  exact this
def C1P (up : Nat → Option Nat) (S0 add : List Nat) : Prop := ∀ x ∈ add, ∀ y, up x = some y → y ∈ S0 ∨ y ∈ add
theorem C1P.add {up : Nat → Option Nat} {S0 add : List Nat} (h : C1P up S0 add) {k x : Nat} (e : up k = some x) (hx : x ∈ S0 ∨ x ∈ add) : C1P up S0 (add ++ [k]) := by
  intro z hz y hy
  rcases List.mem_append.mp hz with hz | hz
  · rcases h z hz y hy with h2 | h2
    · exact Or.inl h2
    · exact Or.inr (List.mem_append.mpr (Or.inl h2))
  · have : z = k := by simpa using hz
    rw [this, e] at hy
    injection hy with hy
    rw [← hy]
    rcases hx with hx | hx
    · exact Or.inl hx
    · exact Or.inr (List.mem_append.mpr (Or.inl hx))
end Go.Proofs.Ytbdnellgioimbaa.M
end
section
/- Lists of cylinders: marks. No conditions. -/
namespace Go.Proofs.Ytbdnellgioimbaa.M
set_option linter.unusedVariables false
set_option linter.unusedSimpArgs false
open Go.RowKit Go.Proofs.YtbdnellgioimbaaW.PrintWords Go.Proofs.YtbdnellgioimbaaW.PrintLast Go.Proofs.YtbdnellgioimbaaW.PrintMore Go.Proofs.Ytbdnellgioimbaa.A
theorem rdT_get64 (l : List S44) (i : Nat) (h : i < l.length) : rd_T44 l (i : Int) = l[i] := by
  unfold rd_T44
  simp [List.getD_eq_getElem?_getD, h]
end Go.Proofs.Ytbdnellgioimbaa.M
end
section
/- The least shears: the program and the reference answer alike. No conditions. -/
namespace Go.Proofs.Ytbdnellgioimbaa.M
set_option linter.unusedVariables false
set_option linter.unusedSimpArgs false
open Go.RowKit Go.Proofs.YtbdnellgioimbaaW.PrintWords Go.Proofs.YtbdnellgioimbaaW.PrintLast Go.Proofs.YtbdnellgioimbaaW.PrintMore Go.Proofs.Ytbdnellgioimbaa.A
theorem outG_wide {r : List Nat} (hr : IsP r) (h24 : r.length ≤ 24) (G : Nat → Nat) (m : Nat) : ∀ c ∈ outG (cycles r) G m (cycles r).length, 1 ≤ c.f0 ∧ c.f0 ≤ 24 := by
  intro c hc
  unfold outG at hc
  obtain ⟨q, hq, rfl⟩ := List.mem_map.mp hc
  have hq' : q < (cycles r).length := List.mem_range.mp (List.mem_filter.mp hq).1
  have hm : (cycles r).getD q [] ∈ cycles r := by
    rw [List.getD_eq_getElem?_getD, List.getElem?_eq_getElem hq']
    exact List.getElem_mem hq'
  obtain ⟨s, t, _, e, _⟩ := cycle_form hr hm
  have h1 := cycle_len hr h24 _ hm
  have h2 : 1 ≤ ((cycles r).getD q []).length := by rw [e]; simp
  exact ⟨by show (1 : Int) ≤ ((((cycles r).getD q []).length : Nat) : Int); omega, by show ((((cycles r).getD q []).length : Nat) : Int) ≤ 24; omega⟩
end Go.Proofs.Ytbdnellgioimbaa.M
end
section
namespace Go.Proofs.Ytbdnellgioimbaa.A
open Go.RowKit Go.Proofs.YtbdnellgioimbaaW.PrintWords Go.Proofs.YtbdnellgioimbaaW.PrintLast Go.Proofs.YtbdnellgioimbaaW.PrintMore
attribute [local go_sem] max2_int min2_int max_two min_two max_three min_three max_four min_four
set_option linter.unusedVariables false
set_option linter.unusedSimpArgs false
def spec_DirectionWord.l0 : Nat → Int → Int → ByteArray → Option (ByteArray)
  | 0, _, _, _ => none
  | k + 1, x0, x1, x5 => if x1 > 0 then (if x0 = 0 then (if x5.size + 1 ≤ 9223372036854775807 then (some (x5 ++ (⟨#[115]⟩ : ByteArray))) else (none)) else (if x0 > x1 then (if x5.size + 1 ≤ 9223372036854775807 then (spec_DirectionWord.l0 k (wrap64 (x0 - x1)) x1 (x5 ++ (⟨#[116]⟩ : ByteArray))) else (none)) else (if x5.size + 3 ≤ 9223372036854775807 then (spec_DirectionWord.l0 k x0 (wrap64 (x1 - x0)) (x5 ++ (⟨#[115, 84, 83]⟩ : ByteArray))) else (none)))) else (some x5)
def spec_DirectionWord.f (k : Nat) (a0 : Int) (a1 : Int) : Option (ByteArray) := (spec_SlopeOk.f k a0 a1).bind fun t1322 => (if t1322 = true then (spec_DirectionWord.l0 k a0 a1 (⟨#[]⟩ : ByteArray)) else (some (⟨#[]⟩ : ByteArray)))
theorem spec_DirectionWord.mono_l : ∀ k, (∀ y0 y1 y2, LeO (spec_DirectionWord.l0 k y0 y1 y2) (spec_DirectionWord.l0 (k + 1) y0 y1 y2))
  | 0 => fun _ _ _ r h => by simp [spec_DirectionWord.l0] at h
  | k + 1 => by
    have ih0 := spec_DirectionWord.mono_l k
    · intro y0 y1 y2
      unfold spec_DirectionWord.l0
      repeat' first|exact ih0 _ _ _|exact spec_SlopeOk.mono _ _ _|exact lo_|refine LeO.ite ?_ ?_|refine LeO.bind ?_ (fun _ => ?_)
theorem spec_DirectionWord.mono : ∀ a0 a1 k, LeO (spec_DirectionWord.f k a0 a1) (spec_DirectionWord.f (k + 1) a0 a1) := by
  intro a0 a1 k
  have ih0 := spec_DirectionWord.mono_l k
  unfold spec_DirectionWord.f
  repeat' first|exact ih0 _ _ _|exact spec_SlopeOk.mono _ _ _|exact lo_|refine LeO.ite ?_ ?_|refine LeO.bind ?_ (fun _ => ?_)
set_option maxHeartbeats 8000000 in
set_option maxRecDepth 100000 in
theorem spec_DirectionWord.calls (k : Nat) (a0 : Int) (a1 : Int) (r : ByteArray) (w : World) (h : spec_DirectionWord.f k a0 a1 = some r) :
    Calls Try.prog 91 #[.int .i64 a0, .int .i64 a1] w fun e w' => e = .returned (.string r) ∧ Drawn0 w w' := by
  have H := h
  unfold spec_DirectionWord.f at H
  clear h
  obtain ⟨t1322, A3, H⟩ := bi_ H
  by_cases c4 : t1322 = true
  · subst c4
    rw [if_pos rfl] at H
    have H' := Aside0.mk H
    clear H
    go_enter Try.func91, Try.ntmps91
    go_wp2_with (first | ((with_reducible refine gate_callee (f := 89) rfl ?_); refine gL_ (some 8) Try.func89 #[.int .i64 a0, .int .i64 a1] rfl qa_ ?_; (with_reducible refine (spec_SlopeOk.calls k a0 a1 true _ A3.out).mono ?_); rintro e w' ⟨rfl, ⟨nd, rfl⟩⟩; refine ⟨_, rfl, ?_⟩))
    go_loopg [0, 1, 5] k (fun kq v0 v1 v5 w' => ∃ (x0_1 : Int) (x1_1 : Int) (x5_1 : ByteArray), v0 = .int .i64 x0_1 ∧ v1 = .int .i64 x1_1 ∧ v5 = .string x5_1 ∧ Aside0 (spec_DirectionWord.l0 kq x0_1 x1_1 x5_1 = some r) ∧ Aside0 (kq ≤ k) ∧ Drawn0 w w')
    case atStart => exact ⟨(a0), (a1), ((⟨#[]⟩ : ByteArray)), qc_, qc_, qc_, H', ⟨Nat.le_refl _⟩, by repeat (first | exact Drawn0.refl _ | apply Drawn0.step)⟩
    case round =>
      clear H'
      obtain ⟨x0_1, x1_1, x5_1, rfl, rfl, rfl, HA, HK1, ⟨m1, rfl⟩⟩ := hrel
      cases gk with
      | zero => exact absurd HA.out (by simp [spec_DirectionWord.l0])
      | succ k1 =>
        have H := HA.out
        clear HA
        simp only [spec_DirectionWord.l0] at H
        by_cases c5 : x1_1 > 0
        · rw [if_pos c5] at H
          have c5b0 : decide (0 < x1_1) = true := decide_eq_true c5
          clear c5
          by_cases c6 : x0_1 = 0
          · rw [if_pos c6] at H
            have c6b0 : (x0_1 == 0) = true := beq_iff_eq.mpr c6
            have c6b1 : (x0_1 != 0) = false := bne_eq_false_iff_eq.mpr c6
            clear c6
            have c7 := cp_ H
            replace H := ca_ H
            have c7b0 := eq_true c7
            have c7b1 := decide_eq_true c7
            try have c7b2 : (9223372036854775807 < x5_1.size + 1) = False := eq_false (Nat.not_lt.2 c7)
            obtain rfl := Option.some.inj H
            go_wp2
            go_ret
            exact ⟨qc_, by repeat (first | exact Drawn0.refl _ | apply Drawn0.step)⟩
          · rw [if_neg c6] at H
            have c6b0 : (x0_1 == 0) = false := beq_eq_false_iff_ne.mpr c6
            have c6b1 : (x0_1 != 0) = true := bne_iff_ne.mpr c6
            by_cases c8 : x0_1 > x1_1
            · rw [if_pos c8] at H
              have c8b0 : decide (x1_1 < x0_1) = true := decide_eq_true c8
              clear c8
              have c9 := cp_ H
              replace H := ca_ H
              have c9b0 := eq_true c9
              have c9b1 := decide_eq_true c9
              try have c9b2 : (9223372036854775807 < x5_1.size + 1) = False := eq_false (Nat.not_lt.2 c9)
              have H' := Aside0.mk H
              clear H
              go_wp2
              go_roundg k1
              case measure => have := HK1.out; omega
              case rel => exact ⟨(wrap64 (x0_1 - x1_1)), (x1_1), (x5_1 ++ (⟨#[116]⟩ : ByteArray)), qc_, qc_, qc_, H', ⟨by have := HK1.out; omega⟩, by repeat (first | exact Drawn0.refl _ | apply Drawn0.step)⟩
            · rw [if_neg c8] at H
              have c8b0 : decide (x1_1 < x0_1) = false := decide_eq_false c8
              clear c8
              have c10 := cp_ H
              replace H := ca_ H
              have c10b0 := eq_true c10
              have c10b1 := decide_eq_true c10
              try have c10b2 : (9223372036854775807 < x5_1.size + 3) = False := eq_false (Nat.not_lt.2 c10)
              have H' := Aside0.mk H
              clear H
              go_wp2
              go_roundg k1
              case measure => have := HK1.out; omega
              case rel => exact ⟨(x0_1), (wrap64 (x1_1 - x0_1)), (x5_1 ++ (⟨#[115, 84, 83]⟩ : ByteArray)), qc_, qc_, qc_, H', ⟨by have := HK1.out; omega⟩, by repeat (first | exact Drawn0.refl _ | apply Drawn0.step)⟩
        · rw [if_neg c5] at H
          have c5b0 : decide (0 < x1_1) = false := decide_eq_false c5
          clear c5
          obtain rfl := Option.some.inj H
          go_wp2
          go_ret
          exact ⟨qc_, by repeat (first | exact Drawn0.refl _ | apply Drawn0.step)⟩
  · replace c4 := Bool.eq_false_iff.mpr c4
    subst c4
    have H1 : (some (⟨#[]⟩ : ByteArray)) = some r := by rw [if_neg (show ¬ (false = true) by decide)] at H; exact H
    clear H
    have H := H1
    clear H1
    obtain rfl := Option.some.inj H
    go_enter Try.func91, Try.ntmps91
    go_wp2_with (first | ((with_reducible refine gate_callee (f := 89) rfl ?_); refine gL_ (some 8) Try.func89 #[.int .i64 a0, .int .i64 a1] rfl qa_ ?_; (with_reducible refine (spec_SlopeOk.calls k a0 a1 false _ A3.out).mono ?_); rintro e w' ⟨rfl, ⟨nd, rfl⟩⟩; refine ⟨_, rfl, ?_⟩))
    go_ret
    exact ⟨qc_, by repeat (first | exact Drawn0.refl _ | apply Drawn0.step)⟩
end Go.Proofs.Ytbdnellgioimbaa.A
end
section
/- Cylinders in a direction: the program and the reference answer alike. No conditions. -/
namespace Go.Proofs.Ytbdnellgioimbaa.M
set_option linter.unusedVariables false
set_option linter.unusedSimpArgs false
open Go.RowKit Go.Proofs.YtbdnellgioimbaaW.PrintWords Go.Proofs.YtbdnellgioimbaaW.PrintLast Go.Proofs.YtbdnellgioimbaaW.PrintMore Go.Proofs.Ytbdnellgioimbaa.A
def dirWordI (p q : Int) : ByteArray := (impl_DirectionWord.f 400 p q).getD ⟨#[]⟩
theorem dir_tab : ∀ a : Fin 13, ∀ b : Fin 13, slopeOkI (a.val : Int) (b.val : Int) = true → spec_DirectionWord.f 400 (a.val : Int) (b.val : Int) = some (dirWordI (a.val : Int) (b.val : Int)) ∧ impl_DirectionWord.f 400 (a.val : Int) (b.val : Int) = some (dirWordI (a.val : Int) (b.val : Int)) ∧ wordB (dirWordI (a.val : Int) (b.val : Int)) = true := by decide +kernel
theorem dir_ev {p q : Int} (h : slopeOkI p q = true) : Ev (fun k => spec_DirectionWord.f k p q) (dirWordI p q) ∧ Ev (fun k => impl_DirectionWord.f k p q) (dirWordI p q) ∧ wordB (dirWordI p q) = true := by
  obtain ⟨⟨h1, h2⟩, h3, h4⟩ := slope_in h
  obtain ⟨a, rfl⟩ : ∃ a : Nat, p = a := ⟨p.toNat, by omega⟩
  obtain ⟨b, rfl⟩ : ∃ b : Nat, q = b := ⟨q.toNat, by omega⟩
  obtain ⟨e1, e2, e3⟩ := dir_tab ⟨a, by omega⟩ ⟨b, by omega⟩ h
  exact ⟨Ev.of (fun k => spec_DirectionWord.mono _ _ _) e1, Ev.of (fun k => impl_DirectionWord.mono _ _ _) e2, e3⟩
end Go.Proofs.Ytbdnellgioimbaa.M
end
section
/- Plain mathematics: sums and periods. No conditions. -/
namespace Go.Proofs.Ytbdnellgioimbaa.M
set_option linter.unusedVariables false
set_option linter.unusedSimpArgs false
open Go.RowKit Go.Proofs.YtbdnellgioimbaaW.PrintWords Go.Proofs.YtbdnellgioimbaaW.PrintLast Go.Proofs.YtbdnellgioimbaaW.PrintMore
theorem w64n (x : Nat) (h : x ≤ 9000000000000000000) : wrap64 (x : Int) = (x : Int) := w64 (by omega) (by omega)
theorem w64add (x y : Nat) (h : x + y ≤ 9000000000000000000) : wrap64 ((x : Int) + (y : Int)) = ((x + y : Nat) : Int) := by rw [← Int.natCast_add]; exact w64n _ h
def sm (f : Nat → Nat) : Nat → Nat
  | 0 => 0
  | n + 1 => sm f n + f n
theorem sm_congr {f h : Nat → Nat} {n : Nat} (e : ∀ i, i < n → f i = h i) : sm f n = sm h n := by
  induction n with
  | zero => rfl
  | succ n ih => rw [sm, sm, ih (fun i hi => e i (by omega)), e n (by omega)]
theorem sm_add {f h : Nat → Nat} (n : Nat) : sm (fun i => f i + h i) n = sm f n + sm h n := by
  induction n with
  | zero => rfl
  | succ n ih => rw [sm, sm, sm, ih]; omega
theorem sm_zero (n : Nat) : sm (fun _ => 0) n = 0 := by
  induction n with
  | zero => rfl
  | succ n ih => rw [sm, ih]
theorem sm_single {a c : Nat} : ∀ n, sm (fun q => if a = q then c else 0) n = if a < n then c else 0 := by
  intro n
  induction n with
  | zero => rfl
  | succ n ih =>
    rw [sm, ih]
    by_cases h : a = n
    · subst h
      simp
    · by_cases h2 : a < n
      · simp [h, h2, Nat.lt_succ_of_lt h2]
      · have h3 : ¬ a < n + 1 := by omega
        simp [h, h2, h3]
theorem sm_list {α : Type} (l : List α) (d : α) (f : α → Nat) : sm (fun q => f (l.getD q d)) l.length = (l.map f).sum := by
  have H : ∀ n, n ≤ l.length → sm (fun q => f (l.getD q d)) n = ((l.take n).map f).sum := by
    intro n
    induction n with
    | zero => intro _; simp [sm]
    | succ n ih =>
      intro h
      have hn : n < l.length := by omega
      have e : l.take (n + 1) = l.take n ++ [l[n]] := by rw [List.take_append_getElem hn]
      rw [sm, ih (by omega), e, List.map_append, List.sum_append]
      simp [List.getD_eq_getElem?_getD, hn]
  have := H l.length (Nat.le_refl _)
  rw [List.take_length] at this
  exact this
theorem flat_len {α : Type} (l : List (List α)) : l.flatten.length = (l.map List.length).sum := by
  induction l with
  | nil => rfl
  | cons a l ih => simp [ih]
theorem per_eq_of {p q : List Nat} (hp : IsP p) (hq : IsP q) {s t : Nat} (hs : s < p.length) (ht : t < q.length) (h : ∀ m, itr p m s = s ↔ itr q m t = t) : per p s = per q t := by
  obtain ⟨a1, _, a3⟩ := per_spec hp hs
  obtain ⟨b1, _, b3⟩ := per_spec hq ht
  have a0 := per_pos p s
  have b0 := per_pos q t
  rcases Nat.lt_trichotomy (per p s) (per q t) with e | e | e
  · exact absurd ((h _).mp a1) (b3 _ a0 e)
  · exact e
  · exact absurd ((h _).mpr b1) (a3 _ b0 e)
theorem itr_comm (p : List Nat) (a b s : Nat) : itr p a (itr p b s) = itr p b (itr p a s) := by
  rw [← itr_add, ← itr_add, Nat.add_comm]
theorem itr_inj {p : List Nat} (hp : IsP p) {k s t : Nat} (hs : s < p.length) (ht : t < p.length) (h : itr p k s = itr p k t) : s = t := by
  induction k with
  | zero => exact h
  | succ k ih => exact ih (g_inj hp (itr_lt hp k hs) (itr_lt hp k ht) h)
theorem per_orb {p : List Nat} (hp : IsP p) {s x : Nat} (hs : s < p.length) (hx : x ∈ orb p s) : per p x = per p s := by
  obtain ⟨k, rfl⟩ := (mem_orb hp hs).mp hx
  refine per_eq_of hp hp (itr_lt hp k hs) hs (fun m => ?_)
  rw [itr_comm]
  constructor
  · intro h
    exact itr_inj hp (itr_lt hp m hs) hs h
  · intro h
    rw [h]
theorem orb_length (p : List Nat) (s : Nat) : (orb p s).length = per p s := by simp [orb, orbTo]
end Go.Proofs.Ytbdnellgioimbaa.M
end
section
/- A direction turned to the right. No conditions. -/
namespace Go.Proofs.Ytbdnellgioimbaa.M
set_option linter.unusedVariables false
set_option linter.unusedSimpArgs false
open Go.RowKit Go.Proofs.YtbdnellgioimbaaW.PrintWords Go.Proofs.YtbdnellgioimbaaW.PrintLast Go.Proofs.YtbdnellgioimbaaW.PrintMore Go.Proofs.Ytbdnellgioimbaa.A
def wkL (r u : List Nat) : List Bool → Nat → Nat
  | [], x => x
  | b :: l, x => wkL r u l (if b then g r x else g u x)
theorem wkL_app (r u : List Nat) (a b : List Bool) (x : Nat) : wkL r u (a ++ b) x = wkL r u b (wkL r u a x) := by
  induction a generalizing x with
  | nil => rfl
  | cons c a ih => exact ih _
theorem wkL_lt {r u : List Nat} (hs : Sf r u) (a : List Bool) : ∀ {x : Nat}, x < r.length → wkL r u a x < r.length := by
  induction a with
  | nil => intro x hx; exact hx
  | cons c a ih =>
    intro x hx
    refine ih ?_
    split
    · exact g_lt hs.pr hx
    · have := g_lt hs.pu (i := x) (by rw [hs.eq]; exact hx)
      rw [hs.eq] at this
      exact this
theorem wkL_inj {r u : List Nat} (hs : Sf r u) (a : List Bool) : ∀ {x y : Nat}, x < r.length → y < r.length → wkL r u a x = wkL r u a y → x = y := by
  induction a with
  | nil => intro x y _ _ h; exact h
  | cons c a ih =>
    intro x y hx hy h
    have b2 : ∀ x, x < r.length → g u x < r.length := fun x hx => by have := g_lt hs.pu (i := x) (by rw [hs.eq]; exact hx); rw [hs.eq] at this; exact this
    cases c with
    | true => exact g_inj hs.pr hx hy (ih (g_lt hs.pr hx) (g_lt hs.pr hy) h)
    | false => exact g_inj hs.pu (by rw [hs.eq]; exact hx) (by rw [hs.eq]; exact hy) (ih (b2 x hx) (b2 y hy) h)
def bitsOf (w : ByteArray) (j : Nat) : List Bool := (List.range j).map (fun (i : Nat) => decide (bt w (i : Int) = 114))
theorem wk_bits (r u : List Nat) (w : ByteArray) (j x : Nat) : wk r u w j x = wkL r u (bitsOf w j) x := by
  induction j with
  | zero => rfl
  | succ j ih =>
    have e : bitsOf w (j + 1) = bitsOf w j ++ [decide (bt w (j : Int) = 114)] := by
      unfold bitsOf
      rw [List.range_succ, List.map_append]
      rfl
    rw [e, wkL_app, ← ih]
    show (if bt w (j : Int) = 114 then g r (wk r u w j x) else g u (wk r u w j x)) = wkL r u [] (if decide (bt w (j : Int) = 114) = true then g r (wk r u w j x) else g u (wk r u w j x))
    by_cases h : bt w (j : Int) = 114 <;> simp [h, wkL]
def lets (w : ByteArray) (j : Nat) : List Int := (List.range j).map (fun (i : Nat) => bt w (i : Int))
def runL (l : List Int) (s : List Nat × List Nat) : List Nat × List Nat := l.foldl (fun s c => lt c s) s
theorem rn_lets (w : ByteArray) (s : List Nat × List Nat) (j : Nat) : rn w s j = runL (lets w j) s := by
  induction j with
  | zero => rfl
  | succ j ih =>
    have e : lets w (j + 1) = lets w j ++ [bt w (j : Int)] := by
      unfold lets
      rw [List.range_succ, List.map_append]
      rfl
    rw [e]
    unfold runL at ih ⊢
    rw [List.foldl_append, ← ih]
    rfl
structure Rep (r u : List Nat) (s : List Nat × List Nat) (a b : List Bool) : Prop where
  sf : Sf s.1 s.2
  len : s.1.length = r.length
  one : ∀ x, x < r.length → g s.1 x = wkL r u a x
  two : ∀ x, x < r.length → g s.2 x = wkL r u b x
theorem Rep.start {r u : List Nat} (hs : Sf r u) : Rep r u (r, u) [true] [false] := ⟨hs, rfl, fun x _ => rfl, fun x _ => rfl⟩
theorem Rep.t {r u : List Nat} (hs : Sf r u) {s : List Nat × List Nat} {a b : List Bool} (h : Rep r u s a b) : Rep r u (runL [116] s) a (a ++ b) := by
  have e : runL [116] s = (s.1, thn s.1 s.2) := rfl
  rw [e]
  refine ⟨sf_t h.sf, h.len, h.one, fun x hx => ?_⟩
  rw [g_thn (by rw [h.len]; exact hx), h.one x hx, h.two _ (wkL_lt hs a hx), wkL_app]
theorem Rep.sTS {r u : List Nat} (hs : Sf r u) {s : List Nat × List Nat} {a b : List Bool} (h : Rep r u s a b) : Rep r u (runL [115, 84, 83] s) (a ++ b) b := by
  have e : runL [115, 84, 83] s = (inv (thn (inv s.2) (inv s.1)), s.2) := rfl
  rw [e]
  have hl2 : s.2.length = r.length := by rw [h.sf.eq, h.len]
  have hP : IsP (thn (inv s.2) (inv s.1)) := isP_thn (isP_inv h.sf.pu) (isP_inv h.sf.pr) (by rw [inv_len, inv_len, h.sf.eq])
  have hPl : (thn (inv s.2) (inv s.1)).length = r.length := by rw [thn_len, inv_len, hl2]
  have hsf := (sf_lt (sf_lt (sf_lt h.sf 115).1 84).1 83).1
  refine ⟨hsf, by show (inv (thn (inv s.2) (inv s.1))).length = _; rw [inv_len, hPl], fun x hx => ?_, h.two⟩
  have h1 := g_lt h.sf.pr (i := x) (by rw [h.len]; exact hx)
  have h2 := g_lt h.sf.pu (i := g s.1 x) (by rw [h.sf.eq]; exact h1)
  show g (inv (thn (inv s.2) (inv s.1))) x = _
  rw [g_inv (by rw [hPl]; exact hx)]
  have key : ix (thn (inv s.2) (inv s.1)) x = g s.2 (g s.1 x) := by
    refine ix_eq hP (by rw [thn_len, inv_len]; exact h2) ?_
    rw [g_thn (by rw [inv_len]; exact h2), g_inv h2, ix_g h.sf.pu (by rw [h.sf.eq]; exact h1), g_inv h1, ix_g h.sf.pr (by rw [h.len]; exact hx)]
  rw [key, h.one x hx, h.two _ (wkL_lt hs a hx), wkL_app]
theorem Rep.s {r u : List Nat} (hs : Sf r u) {s : List Nat × List Nat} {a b : List Bool} (h : Rep r u s a b) : (∀ x, x < r.length → g (runL [115] s).1 x = wkL r u b x) := h.two
def blk : Nat → Nat → Nat → List Nat
  | 0, _, _ => []
  | f + 1, p, q => if q = 0 then [] else if p = 0 then [2] else if q < p then 0 :: blk f (p - q) q else 1 :: blk f p (q - p)
def bl1 (c : Nat) : List Int := if c = 0 then [116] else if c = 1 then [115, 84, 83] else [115]
def blL (l : List Nat) : List Int := (l.map bl1).flatten
def blW : List Nat → List Bool → List Bool → List Bool
  | [], a, _ => a
  | 0 :: l, a, b => blW l a (a ++ b)
  | 1 :: l, a, b => blW l (a ++ b) b
  | _ :: _, _, b => b
def okBl : List Nat → Bool
  | [] => true
  | 0 :: l => okBl l
  | 1 :: l => okBl l
  | 2 :: l => l.isEmpty
  | _ => false
theorem runL_app (a b : List Int) (s : List Nat × List Nat) : runL (a ++ b) s = runL b (runL a s) := by unfold runL; rw [List.foldl_append]
theorem blocks {r u : List Nat} (hs : Sf r u) : ∀ (l : List Nat) (s : List Nat × List Nat) (a b : List Bool), okBl l = true → Rep r u s a b → ∀ x, x < r.length → g (runL (blL l) s).1 x = wkL r u (blW l a b) x := by
  intro l
  induction l with
  | nil => intro s a b _ h x hx; exact h.one x hx
  | cons c l ih =>
    intro s a b hok h x hx
    have e : blL (c :: l) = bl1 c ++ blL l := rfl
    rw [e, runL_app]
    match c, hok with
    | 0, hok => exact ih _ a (a ++ b) hok (h.t hs) x hx
    | 1, hok => exact ih _ (a ++ b) b hok (h.sTS hs) x hx
    | 2, hok =>
      have : l = [] := List.isEmpty_iff.mp hok
      subst this
      exact h.s hs x hx
def rotB (a w : List Bool) : Bool := (List.range (w.length + 1)).any (fun k => a == w.drop k ++ w.take k)
theorem turn_tab : ∀ p : Fin 13, ∀ q : Fin 13, slopeOkI (p.val : Int) (q.val : Int) = true →
    (lets (dirWordI (p.val : Int) (q.val : Int)) (dirWordI (p.val : Int) (q.val : Int)).size == blL (blk 30 p.val q.val)) = true ∧ okBl (blk 30 p.val q.val) = true ∧
    rotB (blW (blk 30 p.val q.val) [true] [false]) (bitsOf (slopeWordI (p.val : Int) (q.val : Int)) (slopeWordI (p.val : Int) (q.val : Int)).size) = true := by decide +kernel
theorem turned_per {r u : List Nat} (hs : Sf r u) {p q : Fin 13} (ho : slopeOkI (p.val : Int) (q.val : Int) = true) : ∃ h : Nat → Nat, (∀ x, x < r.length → h x < r.length) ∧ (∀ x y, x < r.length → y < r.length → h x = h y → x = y) ∧
    (∀ x, x < r.length → per (rn (dirWordI (p.val : Int) (q.val : Int)) (r, u) (dirWordI (p.val : Int) (q.val : Int)).size).1 (h x) = per (pathL r u (slopeWordI (p.val : Int) (q.val : Int))) x) := by
  obtain ⟨t1, t2, t3⟩ := turn_tab p q ho
  have t1 := eq_of_beq t1
  have hsf := sf_rn (s := (r, u)) hs (dirWordI (p.val : Int) (q.val : Int)) (dirWordI (p.val : Int) (q.val : Int)).size
  rw [rn_lets, t1] at hsf ⊢
  have hb := blocks hs (blk 30 p.val q.val) (r, u) [true] [false] t2 (Rep.start hs)
  generalize runL (blL (blk 30 p.val q.val)) (r, u) = s at hsf hb ⊢
  generalize blW (blk 30 p.val q.val) [true] [false] = a at t3 hb
  obtain ⟨k, _, hk⟩ := List.any_eq_true.mp t3
  have hk := eq_of_beq hk
  have hw : bitsOf (slopeWordI (p.val : Int) (q.val : Int)) (slopeWordI (p.val : Int) (q.val : Int)).size = (bitsOf (slopeWordI (p.val : Int) (q.val : Int)) (slopeWordI (p.val : Int) (q.val : Int)).size).take k ++ (bitsOf (slopeWordI (p.val : Int) (q.val : Int)) (slopeWordI (p.val : Int) (q.val : Int)).size).drop k := (List.take_append_drop _ _).symm
  have hP := isP_pathL hs (slopeWordI (p.val : Int) (q.val : Int))
  have hpl := pathL_len r u (slopeWordI (p.val : Int) (q.val : Int))
  have hg : ∀ x, x < r.length → g (pathL r u (slopeWordI (p.val : Int) (q.val : Int))) x = wkL r u (bitsOf (slopeWordI (p.val : Int) (q.val : Int)) (slopeWordI (p.val : Int) (q.val : Int)).size) x := by
    intro x hx
    unfold pathL
    rw [g_tab hx, wk_bits]
  generalize pathL r u (slopeWordI (p.val : Int) (q.val : Int)) = P at hP hpl hg ⊢
  generalize bitsOf (slopeWordI (p.val : Int) (q.val : Int)) (slopeWordI (p.val : Int) (q.val : Int)).size = w at hk hw hg
  refine ⟨wkL r u (w.take k), fun x hx => wkL_lt hs _ hx, fun x y hx hy e => wkL_inj hs _ hx hy e, fun x hx => ?_⟩
  have step : ∀ y, y < r.length → g s.1 (wkL r u (w.take k) y) = wkL r u (w.take k) (g P y) := by
    intro y hy
    have hw2 : wkL r u w y = wkL r u (w.take k ++ w.drop k) y := by rw [← hw]
    rw [hb _ (wkL_lt hs _ hy), hk, hg y hy, hw2, wkL_app, wkL_app]
  have its : ∀ m, itr s.1 m (wkL r u (w.take k) x) = wkL r u (w.take k) (itr P m x) := by
    intro m
    induction m with
    | zero => rfl
    | succ m ih =>
      have hm := itr_lt hP m (s := x) (by rw [hpl]; exact hx)
      rw [hpl] at hm
      show g s.1 (itr s.1 m _) = wkL r u (w.take k) (g P (itr P m x))
      rw [ih, step _ hm]
  refine per_eq_of hsf.1.pr hP (by rw [hsf.2]; exact wkL_lt hs _ hx) (by rw [hpl]; exact hx) (fun m => ?_)
  rw [its]
  have hm := itr_lt hP m (s := x) (by rw [hpl]; exact hx)
  rw [hpl] at hm
  constructor
  · intro e
    exact wkL_inj hs _ hm hx e
  · intro e
    rw [e]
end Go.Proofs.Ytbdnellgioimbaa.M
end
section
/- Plain mathematics: lists that fall, and the lengths of cycles. No conditions. -/
namespace Go.Proofs.Ytbdnellgioimbaa.M
set_option linter.unusedVariables false
set_option linter.unusedSimpArgs false
def insD (x : Nat) : List Nat → List Nat
  | [] => [x]
  | y :: l => if y < x then x :: y :: l else y :: insD x l
def sortD (l : List Nat) : List Nat := l.foldl (fun a x => insD x a) []
def Fall (l : List Nat) : Prop := l.Pairwise (fun a b => b ≤ a)
theorem insD_perm (x : Nat) (l : List Nat) : (insD x l).Perm (x :: l) := by
  induction l with
  | nil => exact List.Perm.refl _
  | cons y l ih =>
    unfold insD
    split
    · exact List.Perm.refl _
    · exact (List.Perm.cons y ih).trans (List.Perm.swap x y l)
theorem insD_fall {x : Nat} {l : List Nat} (h : Fall l) : Fall (insD x l) := by
  induction l with
  | nil => exact List.pairwise_singleton _ _
  | cons y l ih =>
    obtain ⟨h1, h2⟩ := List.pairwise_cons.mp h
    unfold insD
    split
    · rename_i hy
      refine List.pairwise_cons.mpr ⟨fun b hb => ?_, h⟩
      rcases List.mem_cons.mp hb with rfl | hb
      · omega
      · have := h1 b hb
        omega
    · rename_i hy
      refine List.pairwise_cons.mpr ⟨fun b hb => ?_, ih h2⟩
      rcases List.mem_cons.mp ((insD_perm x l).mem_iff.mp hb) with rfl | hb
      · omega
      · exact h1 b hb
theorem sortD_aux : ∀ (l a : List Nat), Fall a → Fall (l.foldl (fun a x => insD x a) a) ∧ (l.foldl (fun a x => insD x a) a).Perm (a ++ l) := by
  intro l
  induction l with
  | nil => intro a h; exact ⟨h, by simp⟩
  | cons x l ih =>
    intro a h
    obtain ⟨h1, h2⟩ := ih (insD x a) (insD_fall h)
    refine ⟨h1, h2.trans ?_⟩
    exact ((insD_perm x a).append_right l).trans (List.perm_middle (l₁ := a) (a := x) (l₂ := l)).symm
theorem sortD_fall (l : List Nat) : Fall (sortD l) := (sortD_aux l [] List.Pairwise.nil).1
theorem sortD_perm (l : List Nat) : (sortD l).Perm l := (sortD_aux l [] List.Pairwise.nil).2
theorem fall_uniq : ∀ {a b : List Nat}, Fall a → Fall b → a.Perm b → a = b := by
  intro a
  induction a with
  | nil => intro b _ _ h; exact (List.nil_perm.mp h).symm
  | cons x a ih =>
    intro b ha hb h
    cases b with
    | nil => exact absurd (List.perm_nil.mp h) (by simp)
    | cons y b =>
      obtain ⟨a1, a2⟩ := List.pairwise_cons.mp ha
      obtain ⟨b1, b2⟩ := List.pairwise_cons.mp hb
      have e : x = y := by
        have h1 : x ∈ y :: b := h.mem_iff.mp (by simp)
        have h2 : y ∈ x :: a := h.mem_iff.mpr (by simp)
        rcases List.mem_cons.mp h1 with e | h1
        · exact e
        · rcases List.mem_cons.mp h2 with e | h2
          · exact e.symm
          · have := b1 x h1
            have := a1 y h2
            omega
      subst e
      rw [ih a2 b2 (List.Perm.cons_inv h)]
theorem sortD_eq {a b : List Nat} (h : ∀ m, a.count m = b.count m) : sortD a = sortD b :=
  fall_uniq (sortD_fall a) (sortD_fall b) ((sortD_perm a).trans ((List.perm_iff_count.mpr h).trans (sortD_perm b).symm))
theorem sortD_len (l : List Nat) : (sortD l).length = l.length := (sortD_perm l).length_eq
theorem insD_len (x : Nat) (l : List Nat) : (insD x l).length = l.length + 1 := by rw [(insD_perm x l).length_eq]; rfl
theorem insD_at {x : Nat} : ∀ {a : List Nat}, Fall a → ∀ k, k ≤ a.length → (∀ y ∈ a.drop k, y < x) → (k = 0 ∨ x ≤ g a (k - 1)) → insD x a = a.take k ++ x :: a.drop k := by
  intro a
  induction a with
  | nil => intro _ k hk _ _; simp [insD]
  | cons y a ih =>
    intro h k hk h1 h2
    obtain ⟨a1, a2⟩ := List.pairwise_cons.mp h
    cases k with
    | zero =>
      have : y < x := h1 y (by simp)
      simp [insD, this]
    | succ k =>
      have hy : x ≤ y := by
        rcases h2 with h2 | h2
        · omega
        · cases k with
          | zero => exact h2
          | succ k =>
            have e : g (y :: a) (k + 1 + 1 - 1) = g a k := rfl
            rw [e] at h2
            have hk' : k < a.length := by simp at hk; omega
            have := a1 (g a k) (g_mem hk')
            omega
      have hny : ¬ y < x := by omega
      simp only [insD, hny, if_false, List.take_succ_cons, List.drop_succ_cons, List.cons_append]
      rw [ih a2 k (by simpa using hk) (fun z hz => h1 z (by simpa using hz)) ?_]
      rcases h2 with h2 | h2
      · omega
      · cases k with
        | zero => exact .inl rfl
        | succ k => exact .inr h2
theorem count_map_len (C : List (List Nat)) (m : Nat) : (C.map List.length).count m = (C.filter (fun c => c.length == m)).length := by
  induction C with
  | nil => rfl
  | cons c C ih =>
    rw [List.map_cons, List.count_cons, ih, List.filter_cons]
    by_cases h : c.length = m
    · simp [h]
    · have : (c.length == m) = false := by simp [h]
      simp [h]
def perN (p : List Nat) (m : Nat) : List Nat := (List.range p.length).filter (fun x => decide (per p x = m))
theorem flat_filter_len (C : List (List Nat)) (m : Nat) : ((C.filter (fun c => c.length == m)).flatten).length = m * (C.filter (fun c => c.length == m)).length := by
  induction C with
  | nil => simp
  | cons c C ih =>
    rw [List.filter_cons]
    by_cases h : c.length = m
    · have : (c.length == m) = true := by simp [h]
      rw [if_pos this, List.flatten_cons, List.length_append, ih, h, List.length_cons, Nat.mul_add]
      omega
    · have : (c.length == m) = false := by simp [h]
      rw [this]
      simp only [Bool.false_eq_true, if_false]
      exact ih
end Go.Proofs.Ytbdnellgioimbaa.M
end
section
/- The laws' own sorting. No conditions. -/
namespace Go.Proofs.Ytbdnellgioimbaa.M
set_option linter.unusedVariables false
set_option linter.unusedSimpArgs false
open Go.RowKit Go.Proofs.YtbdnellgioimbaaW.PrintWords Go.Proofs.YtbdnellgioimbaaW.PrintLast Go.Proofs.YtbdnellgioimbaaW.PrintMore Go.Proofs.Ytbdnellgioimbaa.A
theorem rd_left (a : List Nat) (z : Int) (b : List Nat) {k : Nat} (h : k < a.length) : rd (I a ++ z :: I b) (k : Int) = ((g a k : Nat) : Int) := by
  rw [← rdI]
  unfold rd
  rw [Int.toNat_natCast, List.getD_eq_getElem?_getD, List.getD_eq_getElem?_getD, List.getElem?_append_left (by rw [I_len]; exact h)]
theorem set_at (a : List Nat) (z v : Int) (b : List Nat) : (I a ++ z :: I b).set a.length v = I a ++ v :: I b := by
  rw [← I_len a]
  exact set_mid (I a) z v (I b)
theorem take_g {a : List Nat} {k : Nat} (h : k < a.length) : a.take (k + 1) = a.take k ++ [g a k] := by
  rw [g_get h, List.take_append_getElem h]
theorem law_put (acc : List Nat) (hf : Fall acc) (hl : acc.length ≤ 1000) (x : Nat) (L : List Int) (n j : Int) (res : List Int)
    (h : Ev (fun k => laws_sorted.l0 k (I (insD x acc)) L n (wrap64 (j + 1))) res) :
    ∀ (k : Nat) (z : Int), k ≤ acc.length → (∀ y ∈ acc.drop k, y < x) → Ev (fun q => laws_sorted.l1 q (I (acc.take k) ++ z :: I (acc.drop k)) (x : Int) (k : Int) L n j) res := by
  intro k
  induction k with
  | zero =>
    intro z _ hd
    have e := insD_at hf 0 (Nat.zero_le _) hd (.inl rfl)
    have hs := set_at (acc.take 0) z (x : Int) (acc.drop 0)
    refine ev_succ ?_
    have c1 : ¬ (((0 : Nat) : Int) > 0) := by omega
    have c2 : (0 : Int) ≤ ((0 : Nat) : Int) := by omega
    have c3 : ((0 : Nat) : Int) < ((I (acc.take 0) ++ z :: I (acc.drop 0)).length : Int) := by simp; omega
    have c4 : (I (acc.take 0) ++ z :: I (acc.drop 0)).set ((0 : Nat) : Int).toNat (x : Int) = I (insD x acc) := by
      rw [e, ← I_app]
      exact hs
    simp only [laws_sorted.l1, c1, c2, c3, c4, if_true, if_false]
    exact h
  | succ k ih =>
    intro z hk hd
    have hk' : k < acc.length := by omega
    have htl : (acc.take (k + 1)).length = k + 1 := by rw [List.length_take]; omega
    have c1 : ((k + 1 : Nat) : Int) > 0 := by omega
    have c5 : (0 : Int) ≤ (k : Int) := by omega
    have hlen : (I (acc.take (k + 1)) ++ z :: I (acc.drop (k + 1))).length = acc.length + 1 := by
      rw [List.length_append, List.length_cons, I_len, I_len, htl, List.length_drop]
      omega
    have c6 : (k : Int) < ((I (acc.take (k + 1)) ++ z :: I (acc.drop (k + 1))).length : Int) := by rw [hlen]; omega
    have c7 : (0 : Int) ≤ ((k + 1 : Nat) : Int) := by omega
    have c8 : ((k + 1 : Nat) : Int) < ((I (acc.take (k + 1)) ++ z :: I (acc.drop (k + 1))).length : Int) := by rw [hlen]; omega
    have hgk : g (acc.take (k + 1)) k = g acc k := by
      unfold g
      rw [List.getD_eq_getElem?_getD, List.getD_eq_getElem?_getD, List.getElem?_take]
      simp
    have c9 : rd (I (acc.take (k + 1)) ++ z :: I (acc.drop (k + 1))) (k : Int) = ((g acc k : Nat) : Int) := by
      rw [rd_left _ _ _ (by rw [htl]; omega), hgk]
    have c3 : wrap64 (((k + 1 : Nat) : Int) - 1) = (k : Int) := by rw [w64 (by omega) (by omega)]; omega
    refine ev_succ ?_
    by_cases hlt : g acc k < x
    · have c10 : ((g acc k : Nat) : Int) < (x : Int) := by exact_mod_cast hlt
      have hs : (I (acc.take (k + 1)) ++ z :: I (acc.drop (k + 1))).set (((k + 1 : Nat) : Int)).toNat ((g acc k : Nat) : Int) = I (acc.take k) ++ ((g acc k : Nat) : Int) :: I (acc.drop k) := by
        have h1 := set_at (acc.take (k + 1)) z ((g acc k : Nat) : Int) (acc.drop (k + 1))
        rw [htl] at h1
        rw [Int.toNat_natCast, h1, take_g hk', ← I_app, I_one, List.append_assoc]
        have h2 : acc.drop k = g acc k :: acc.drop (k + 1) := by rw [g_get hk']; exact List.drop_eq_getElem_cons hk'
        rw [h2]
        rfl
      have key := ih ((g acc k : Nat) : Int) (by omega) (fun y hy => by
        have h2 : acc.drop k = g acc k :: acc.drop (k + 1) := by rw [g_get hk']; exact List.drop_eq_getElem_cons hk'
        rw [h2] at hy
        rcases List.mem_cons.mp hy with rfl | hy
        · exact hlt
        · exact hd y hy)
      simp only [laws_sorted.l1, c1, c3, c5, c6, c7, c8, c9, c10, hs, if_true]
      exact key
    · have c10 : ¬ (((g acc k : Nat) : Int) < (x : Int)) := by omega
      have e := insD_at hf (k + 1) hk hd (.inr (by show x ≤ g acc k; omega))
      have c4 : (I (acc.take (k + 1)) ++ z :: I (acc.drop (k + 1))).set (((k + 1 : Nat) : Int)).toNat (x : Int) = I (insD x acc) := by
        have h1 := set_at (acc.take (k + 1)) z (x : Int) (acc.drop (k + 1))
        rw [htl] at h1
        rw [Int.toNat_natCast, h1, e, ← I_app]
        rfl
      simp only [laws_sorted.l1, c1, c3, c4, c5, c6, c7, c8, c9, c10, if_true, if_false]
      exact h
theorem law_sorted (l : List Nat) (hl : l.length ≤ 1000) : Ev (fun k => laws_sorted.f k (I l)) (I (sortD l)) := by
  unfold laws_sorted.f
  have H : ∀ d j : Nat, j + d = l.length → ∀ acc : List Nat, Fall acc → acc.length = j → (l.drop j).foldl (fun a x => insD x a) acc = sortD l → Ev (fun k => laws_sorted.l0 k (I acc) (I l) (l.length : Int) (j : Int)) (I (sortD l)) := by
    intro d
    induction d with
    | zero =>
      intro j hj acc hf ha he
      rw [List.drop_of_length_le (by omega)] at he
      refine ev_succ ?_
      have c1 : ¬ ((j : Int) < (l.length : Int)) := by omega
      simp only [laws_sorted.l0, c1, if_false]
      rw [← he]
      exact Ev.now _
    | succ d ih =>
      intro j hj acc hf ha he
      have hjl : j < l.length := by omega
      rw [List.drop_eq_getElem_cons hjl, List.foldl_cons, ← g_get hjl] at he
      have key := ih (j + 1) (by omega) (insD (g l j) acc) (insD_fall hf) (by rw [insD_len, ha]) he
      have c3 := w64s j (by omega)
      rw [← c3] at key
      have put := law_put acc hf (by omega) (g l j) (I l) (l.length : Int) (j : Int) _ key acc.length 0 (Nat.le_refl _) (fun y hy => by rw [List.drop_length] at hy; simp at hy)
      rw [List.take_length, List.drop_length, I_nil] at put
      have q1 : acc.length + 1 ≤ 9000000000000000000 := by omega
      have c1 : (j : Int) < (l.length : Int) := by omega
      have c2 : (0 : Int) ≤ (j : Int) := by omega
      have c5 : (I acc).length < 17592186044416 := by rw [I_len]; omega
      have c4 : wrap64 (((I acc ++ [0]).length : Int) - 1) = (acc.length : Int) := by
        have e : ((I acc ++ [0]).length : Int) - 1 = (acc.length : Int) := by rw [List.length_append, I_len]; simp
        rw [e]
        exact w64 (by omega) (by omega)
      refine ev_succ ?_
      simp only [laws_sorted.l0, c1, c2, c4, c5, rdI, I_len', if_true, Option.bind_some]
      exact put
  have key := H l.length 0 (Nat.zero_add _) [] List.Pairwise.nil rfl (by rw [List.drop_zero]; rfl)
  rw [← I_len l] at key
  exact key
theorem law_lengths (C : List (List Nat)) (hl : C.length ≤ 1000) : Ev (fun k => laws_lengths.f k (I2 C)) (I (sortD (C.map List.length))) := by
  unfold laws_lengths.f
  have H : ∀ d j : Nat, j + d = C.length → Ev (fun k => laws_lengths.l0 k (I ((C.take j).map List.length)) (I2 C) (C.length : Int) (j : Int)) (I (sortD (C.map List.length))) := by
    intro d
    induction d with
    | zero =>
      intro j hj
      obtain rfl : j = C.length := by omega
      refine ev_succ ?_
      have c1 : ¬ ((C.length : Int) < (C.length : Int)) := by omega
      simp only [laws_lengths.l0, c1, if_false, List.take_length]
      exact Ev.bind (law_sorted _ (by rw [List.length_map]; exact hl)) (Ev.now _)
    | succ d ih =>
      intro j hj
      have hjl : j < C.length := by omega
      have c1 : (j : Int) < (C.length : Int) := by omega
      have c2 : (0 : Int) ≤ (j : Int) := by omega
      have c4 : rd_L1 (I2 C) (j : Int) = I (C[j]) := rdL_I2 C j hjl
      have c5 : (I ((C.take j).map List.length)).length < 17592186044416 := by rw [I_len, List.length_map, List.length_take]; omega
      have c6 : I ((C.take j).map List.length) ++ [((C[j].length : Nat) : Int)] = I ((C.take (j + 1)).map List.length) := by
        rw [I_snoc, ← List.take_append_getElem hjl, List.map_append]
        rfl
      have c3 := w64s j (by omega)
      refine ev_succ ?_
      simp only [laws_lengths.l0, c1, c2, c3, c4, c5, c6, I2_len, I_len', if_true]
      exact ih (j + 1) (by omega)
  have key := H C.length 0 (Nat.zero_add _)
  rw [← I2_len C] at key
  exact key
theorem law_same (a : List Int) (hl : a.length ≤ 1000000000) : Ev (fun k => laws_same.f k a a) true := by
  unfold laws_same.f
  simp only [if_true]
  have H : ∀ d j : Nat, j + d = a.length → Ev (fun k => laws_same.l0 k a a (a.length : Int) (j : Int)) true := by
    intro d
    induction d with
    | zero =>
      intro j hj
      refine ev_succ ?_
      have c1 : ¬ ((j : Int) < (a.length : Int)) := by omega
      simp only [laws_same.l0, c1, if_false]
      exact Ev.now _
    | succ d ih =>
      intro j hj
      refine ev_succ ?_
      have c1 : (j : Int) < (a.length : Int) := by omega
      have c2 : (0 : Int) ≤ (j : Int) := by omega
      have c3 := w64s j (by omega)
      simp only [laws_same.l0, c1, c2, c3, if_true]
      exact ih (j + 1) (by omega)
  exact H a.length 0 (Nat.zero_add _)
end Go.Proofs.Ytbdnellgioimbaa.M
end
section
/- Conjugates have cycles of the same lengths. No conditions. -/
namespace Go.Proofs.Ytbdnellgioimbaa.M
set_option linter.unusedVariables false
set_option linter.unusedSimpArgs false
open Go.RowKit Go.Proofs.YtbdnellgioimbaaW.PrintWords Go.Proofs.YtbdnellgioimbaaW.PrintLast Go.Proofs.YtbdnellgioimbaaW.PrintMore Go.Proofs.Ytbdnellgioimbaa.A
theorem filt_flat_sub {C : List (List Nat)} (P : List Nat → Bool) (h : C.flatten.Nodup) : (C.filter P).flatten.Nodup := by
  induction C with
  | nil => simp
  | cons c C ih =>
    rw [List.flatten_cons, List.nodup_append] at h
    rw [List.filter_cons]
    split
    · rw [List.flatten_cons, List.nodup_append]
      refine ⟨h.1, ih h.2.1, fun a ha b hb => h.2.2 a ha b ?_⟩
      obtain ⟨d, hd, hbd⟩ := mem_flat.mp hb
      exact mem_flat.mpr ⟨d, (List.mem_filter.mp hd).1, hbd⟩
    · exact ih h.2.1
theorem perN_count {p : List Nat} (hp : IsP p) (m : Nat) : (perN p m).length = m * ((cycles p).map List.length).count m := by
  rw [count_map_len, ← flat_filter_len]
  obtain ⟨k1, k2⟩ := cyc_flat_lt hp p.length (Nat.le_refl _)
  refine nodup_len_eq (List.nodup_range.filter _) (filt_flat_sub _ k2) (fun x => ?_)
  unfold perN
  rw [List.mem_filter, List.mem_range, mem_flat]
  constructor
  · rintro ⟨hx, hm⟩
    obtain ⟨c, hc, hxc⟩ := cyc_all hp p.length (Nat.le_refl _) x hx
    obtain ⟨s, t, hs, _, eo, _⟩ := cycle_form hp hc
    refine ⟨c, List.mem_filter.mpr ⟨hc, ?_⟩, hxc⟩
    have := per_orb hp hs (x := x) (by rw [← eo]; exact hxc)
    rw [eo, orb_length, ← this]
    simpa using hm
  · rintro ⟨c, hc, hxc⟩
    obtain ⟨hc, hm⟩ := List.mem_filter.mp hc
    obtain ⟨s, t, hs, _, eo, _⟩ := cycle_form hp hc
    have hxo : x ∈ orb p s := by rw [← eo]; exact hxc
    refine ⟨orb_lt hp hs hxo, ?_⟩
    have := per_orb hp hs hxo
    rw [this, ← orb_length, ← eo]
    simpa using hm
theorem count_zero {p : List Nat} (hp : IsP p) : ((cycles p).map List.length).count 0 = 0 := by
  refine List.count_eq_zero.mpr (fun h => ?_)
  obtain ⟨c, hc, e⟩ := List.mem_map.mp h
  obtain ⟨s, t, _, ec, _⟩ := cycle_form hp hc
  rw [ec] at e
  simp at e
theorem map_nodup {l : List Nat} {h : Nat → Nat} (hl : l.Nodup) (hi : ∀ x ∈ l, ∀ y ∈ l, h x = h y → x = y) : (l.map h).Nodup := by
  induction l with
  | nil => simp
  | cons a l ih =>
    obtain ⟨h1, h2⟩ := List.nodup_cons.mp hl
    rw [List.map_cons, List.nodup_cons]
    refine ⟨fun hm => ?_, ih h2 (fun x hx y hy => hi x (by simp [hx]) y (by simp [hy]))⟩
    obtain ⟨y, hy, e⟩ := List.mem_map.mp hm
    exact h1 (hi y (by simp [hy]) a (by simp) e ▸ hy)
theorem lens_eq {p q : List Nat} (hp : IsP p) (hq : IsP q) (hl : p.length = q.length) (h : Nat → Nat) (h1 : ∀ x, x < p.length → h x < q.length) (h2 : ∀ x y, x < p.length → y < p.length → h x = h y → x = y) (h3 : ∀ x, x < p.length → per q (h x) = per p x) :
    sortD ((cycles p).map List.length) = sortD ((cycles q).map List.length) := by
  have le : ∀ m, (perN p m).length ≤ (perN q m).length := by
    intro m
    have hn : ((perN p m).map h).Nodup := map_nodup (List.nodup_range.filter _) (fun x hx y hy e => h2 x y (List.mem_range.mp (List.mem_filter.mp hx).1) (List.mem_range.mp (List.mem_filter.mp hy).1) e)
    have := nodup_sub_len5 _ (perN q m) hn (fun x hx => by
      obtain ⟨y, hy, rfl⟩ := List.mem_map.mp hx
      obtain ⟨y1, y2⟩ := List.mem_filter.mp hy
      have y1 := List.mem_range.mp y1
      refine List.mem_filter.mpr ⟨List.mem_range.mpr (h1 y y1), ?_⟩
      rw [h3 y y1]
      exact y2)
    rwa [List.length_map] at this
  have tot : ∀ (p : List Nat), IsP p → sm (fun m => (perN p m).length) (p.length + 1) = p.length := by
    intro p hp
    have H : ∀ k, k ≤ p.length → sm (fun m => ((List.range k).filter (fun x => decide (per p x = m))).length) (p.length + 1) = k := by
      intro k
      induction k with
      | zero =>
        intro _
        have : ∀ i, i < p.length + 1 → ((List.range 0).filter (fun x => decide (per p x = i))).length = 0 := fun i _ => rfl
        rw [sm_congr this, sm_zero]
      | succ k ih =>
        intro hk
        have e : ∀ i, i < p.length + 1 → ((List.range (k + 1)).filter (fun x => decide (per p x = i))).length = ((List.range k).filter (fun x => decide (per p x = i))).length + (if per p k = i then 1 else 0) := by
          intro i _
          rw [List.range_succ, List.filter_append, List.length_append]
          by_cases h : per p k = i <;> simp [h]
        have hlt : per p k < p.length + 1 := by have := (per_spec hp (s := k) (by omega)).2.1; omega
        rw [sm_congr e, sm_add, ih (by omega), sm_single, if_pos hlt]
    exact H p.length (Nat.le_refl _)
  have eqs : ∀ m, m < p.length + 1 → (perN p m).length = (perN q m).length := by
    have t1 := tot p hp
    have t2 := tot q hq
    rw [← hl] at t2
    have H : ∀ n, sm (fun m => (perN p m).length) n ≤ sm (fun m => (perN q m).length) n := by
      intro n
      induction n with
      | zero => exact Nat.le_refl _
      | succ n ih => rw [sm, sm]; have := le n; omega
    have K : ∀ n, sm (fun m => (perN p m).length) n = sm (fun m => (perN q m).length) n → ∀ m, m < n → (perN p m).length = (perN q m).length := by
      intro n
      induction n with
      | zero => intro _ m hm; omega
      | succ n ih =>
        intro e m hm
        rw [sm, sm] at e
        have a := le n
        have b := H n
        by_cases hmn : m = n
        · subst hmn; omega
        · exact ih (by omega) m (by omega)
    exact K _ (t1.trans t2.symm)
  refine sortD_eq (fun m => ?_)
  by_cases m0 : m = 0
  · subst m0
    rw [count_zero hp, count_zero hq]
  · by_cases hm : m < p.length + 1
    · have := eqs m hm
      rw [perN_count hp, perN_count hq] at this
      exact Nat.eq_of_mul_eq_mul_left (by omega) this
    · have z : ∀ r : List Nat, IsP r → r.length = p.length → ((cycles r).map List.length).count m = 0 := by
        intro r hr hl
        refine List.count_eq_zero.mpr (fun h => ?_)
        obtain ⟨c, hc, e⟩ := List.mem_map.mp h
        obtain ⟨s, t, hs, _, eo, _⟩ := cycle_form hr hc
        rw [eo, orb_length] at e
        have := (per_spec hr hs).2.1
        omega
      rw [z p hp rfl, z q hq hl.symm]
end Go.Proofs.Ytbdnellgioimbaa.M
end
section
/- Cylinders fill the surface. No conditions. -/
namespace Go.Proofs.Ytbdnellgioimbaa.M
set_option linter.unusedVariables false
set_option linter.unusedSimpArgs false
open Go.RowKit Go.Proofs.YtbdnellgioimbaaW.PrintWords Go.Proofs.YtbdnellgioimbaaW.PrintLast Go.Proofs.YtbdnellgioimbaaW.PrintMore Go.Proofs.Ytbdnellgioimbaa.A
def rl (r : List Nat) (q : Nat) : Nat := ((cycles r).getD q []).length
theorem rl_at {r : List Nat} {i : Nat} (h : i < (cycles r).length) : rl r i = ((cycles r)[i]).length := by
  unfold rl
  rw [List.getD_eq_getElem?_getD, List.getElem?_eq_getElem h]
  rfl
theorem rl_per {r : List Nat} (hr : IsP r) {i : Nat} (h : i < (cycles r).length) {x : Nat} (hx : x ∈ (cycles r)[i]) : rl r i = per r x := by
  obtain ⟨s, t, hs0, ec, eo, _⟩ := cycle_form hr (List.getElem_mem h)
  rw [rl_at h]
  rw [eo] at hx ⊢
  rw [orb_length, per_orb hr hs0 hx]
theorem rl_up {r u : List Nat} (hs : Sf r u) {i j : Nat} (h : upA (abL r u) i = some j) : rl r i = rl r j := by
  obtain ⟨hi, s, hs0, eo, hm, hreg, hu, e⟩ := upA_form hs h
  obtain ⟨hj, k1⟩ := rowIx_lt hs.pr hu
  subst e
  rw [rl_per hs.pr hi hm, rl_per hs.pr hj k1]
  refine per_eq_of hs.pr hs.pr hs0 hu (fun m => ?_)
  have hup := reg_up hs hs0 (fun x hx => hreg x (by rw [eo]; exact hx)) m
  rw [← hup]
  constructor
  · intro h
    rw [h]
  · intro h
    exact g_inj hs.pu (by rw [hs.eq]; exact itr_lt hs.pr m hs0) (by rw [hs.eq]; exact hs0) h
theorem rl_cn {r u : List Nat} (hs : Sf r u) {i j : Nat} (h : Cn (upA (abL r u)) i j) : rl r i = rl r j :=
  ((Cn.closed (S := fun k => rl r i = rl r k) (fun a b hab => by rw [rl_up hs hab]) h).mp rfl)
theorem rl_sum {r : List Nat} (hr : IsP r) : sm (rl r) (cycles r).length = r.length := by
  have h1 : sm (rl r) (cycles r).length = ((cycles r).map List.length).sum := sm_list (cycles r) [] List.length
  rw [h1, ← flat_len]
  obtain ⟨k1, k2⟩ := cyc_flat_lt hr r.length (Nat.le_refl _)
  have := nodup_len_eq k2 (b := List.range r.length) List.nodup_range (fun x => ⟨fun hx => List.mem_range.mpr (k1 x hx), fun hx => by
    obtain ⟨c, hc, hxc⟩ := cyc_all hr r.length (Nat.le_refl _) x (List.mem_range.mp hx)
    exact mem_flat.mpr ⟨c, hc, hxc⟩⟩)
  rw [List.length_range] at this
  exact this
theorem sm_heads {G : Nat → Nat} {n : Nat} (hlt : ∀ j, j < n → G j < n) (hfix : ∀ j, j < n → G (G j) = G j) (f : Nat → Nat) : ∀ m, m ≤ n → sm (fun q => if G q = q then f q * cntG G m q else 0) n = sm (fun j => f (G j)) m := by
  intro m
  induction m with
  | zero =>
    intro _
    have : ∀ i, i < n → (if G i = i then f i * cntG G 0 i else 0) = 0 := by
      intro i _
      have : cntG G 0 i = 0 := by unfold cntG; rfl
      rw [this]
      split <;> simp
    rw [sm_congr this, sm_zero]
    rfl
  | succ m ih =>
    intro hm
    have e : ∀ q, q < n → (if G q = q then f q * cntG G (m + 1) q else 0) = (if G q = q then f q * cntG G m q else 0) + (if G m = q then f (G m) else 0) := by
      intro q hq
      rw [cntG_succ]
      by_cases h1 : G m = q
      · have h2 : G q = q := by rw [← h1]; exact hfix m (by omega)
        rw [if_pos h2, if_pos h2, if_pos h1, if_pos h1, h1, Nat.mul_add, Nat.mul_one]
      · rw [if_neg h1, if_neg h1]
        simp
    rw [sm_congr e, sm_add, ih (by omega), sm_single, if_pos (hlt m (by omega))]
    rfl
theorem outG_sum (C : List (List Nat)) (G : Nat → Nat) (n : Nat) (F : S44 → Nat) : ∀ i, ((outG C G n i).map F).sum = sm (fun q => if G q = q then F ⟨(((C.getD q []).length : Nat) : Int), ((cntG G n q : Nat) : Int)⟩ else 0) i := by
  intro i
  induction i with
  | zero => rfl
  | succ i ih =>
    rw [sm]
    by_cases h : G i = i
    · rw [outG_yes h, List.map_append, List.sum_append, ih, if_pos h]
      simp
    · rw [outG_no h, ih, if_neg h]
      simp
theorem cyl_area {r u : List Nat} (hs : Sf r u) {G : Nat → Nat} (hG : Grp (cycles r).length (upA (abL r u)) (cycles r).length G) : ((outG (cycles r) G (cycles r).length (cycles r).length).map (fun c => c.f0.toNat * c.f1.toNat)).sum = r.length := by
  rw [outG_sum]
  have hlt : ∀ j, j < (cycles r).length → G j < (cycles r).length := fun j hj => by have := hG.le j hj; omega
  have h1 := sm_heads hlt hG.fix (rl r) (cycles r).length (Nat.le_refl _)
  have h2 : sm (fun j => rl r (G j)) (cycles r).length = sm (rl r) (cycles r).length := sm_congr (fun j hj => (rl_cn hs (hG.cn j hj)).symm)
  rw [h2, rl_sum hs.pr] at h1
  rw [← h1]
  exact sm_congr (fun q hq => by simp only [Int.toNat_natCast]; rfl)
theorem outG_box {r : List Nat} (hr : IsP r) (h24 : r.length ≤ 24) (G : Nat → Nat) : ∀ c ∈ outG (cycles r) G (cycles r).length (cycles r).length, (1 ≤ c.f0 ∧ c.f0 ≤ 24) ∧ (1 ≤ c.f1 ∧ c.f1 ≤ 24) := by
  intro c hc
  refine ⟨outG_wide hr h24 G _ c hc, ?_⟩
  unfold outG at hc
  obtain ⟨q, hq, rfl⟩ := List.mem_map.mp hc
  obtain ⟨h1, h2⟩ := List.mem_filter.mp hq
  have h1 := List.mem_range.mp h1
  have h2 : G q = q := of_decide_eq_true h2
  have h3 := cntG_le G (cycles r).length q
  have h4 := cycles_len (p := r) h24
  have h5 : 1 ≤ cntG G (cycles r).length q := by
    unfold cntG
    refine List.length_pos_of_mem (a := q) (List.mem_filter.mpr ⟨List.mem_range.mpr h1, by simp [h2]⟩)
  exact ⟨by show (1 : Int) ≤ ((cntG G (cycles r).length q : Nat) : Int); omega, by show ((cntG G (cycles r).length q : Nat) : Int) ≤ 24; omega⟩
theorem sum_drop {α : Type} (l : List α) (F : α → Nat) {i : Nat} (h : i < l.length) : ((l.drop i).map F).sum = F l[i] + ((l.drop (i + 1)).map F).sum := by
  rw [List.drop_eq_getElem_cons h, List.map_cons, List.sum_cons]
theorem area_ev (l : List S44) (hl : l.length ≤ 24) (hb : ∀ c ∈ l, (1 ≤ c.f0 ∧ c.f0 ≤ 24) ∧ (1 ≤ c.f1 ∧ c.f1 ≤ 24)) : Ev (fun k => impl_AreaOf.f k l) (((l.map (fun c => c.f0.toNat * c.f1.toNat)).sum : Nat) : Int) := by
  unfold impl_AreaOf.f
  have c0 : ¬ ((l.length : Int) > 24) := by omega
  simp only [c0, if_false]
  have H : ∀ (d i x : Nat), i + d = l.length → x ≤ 576 * i → Ev (fun k => impl_AreaOf.l0 k (x : Int) l (l.length : Int) (i : Int)) (((x + ((l.drop i).map (fun c => c.f0.toNat * c.f1.toNat)).sum : Nat)) : Int) := by
    intro d
    induction d with
    | zero =>
      intro i x hi hx
      refine ev_succ ?_
      have c1 : ¬ ((i : Int) < (l.length : Int)) := by omega
      rw [List.drop_of_length_le (by omega)]
      simp only [impl_AreaOf.l0, c1, if_false]
      exact Ev.now _
    | succ d ih =>
      intro i x hi hx
      have hil : i < l.length := by omega
      obtain ⟨⟨w0, w1⟩, v0, v1⟩ := hb (l[i]) (List.getElem_mem hil)
      rw [sum_drop l _ hil]
      have c1 : (i : Int) < (l.length : Int) := by omega
      have c2 : (0 : Int) ≤ (i : Int) := by omega
      have c4 : rd_T44 l (i : Int) = l[i] := rdT_get64 l i hil
      have n1 : ¬ ((l[i]).f0 < 1) := by omega
      have n2 : ¬ ((l[i]).f0 > 24) := by omega
      have n3 : ¬ ((l[i]).f1 < 1) := by omega
      have n4 : ¬ ((l[i]).f1 > 24) := by omega
      obtain ⟨a, ha⟩ : ∃ a : Nat, (l[i]).f0 = (a : Int) ∧ a ≤ 24 := ⟨(l[i]).f0.toNat, by omega, by omega⟩
      obtain ⟨b, hb'⟩ : ∃ b : Nat, (l[i]).f1 = (b : Int) ∧ b ≤ 24 := ⟨(l[i]).f1.toNat, by omega, by omega⟩
      have hm : a * b ≤ 24 * 24 := Nat.mul_le_mul ha.2 hb'.2
      have key := ih (i + 1) (x + a * b) (by omega) (by omega)
      have e0 : ((l[i]).f0.toNat * (l[i]).f1.toNat) = a * b := by rw [ha.1, hb'.1]; rfl
      have e1 : (l[i]).f0 * (l[i]).f1 = ((a * b : Nat) : Int) := by rw [ha.1, hb'.1, Int.natCast_mul]
      rw [e0, ← Nat.add_assoc]
      refine ev_succ ?_
      have q1 : i ≤ 9000000000000000000 := by omega
      have q2 : a * b ≤ 9000000000000000000 := by omega
      have q3 : x + a * b ≤ 9000000000000000000 := by omega
      have c3 := w64s i q1
      have c5 := w64n (a * b) q2
      have c6 := w64add x (a * b) q3
      simp only [impl_AreaOf.l0, c1, c2, c4, n1, n2, n3, n4, e1, c3, c5, c6, if_true, if_false]
      exact key
  have := H l.length 0 0 (by omega) (by omega)
  simpa using this
end Go.Proofs.Ytbdnellgioimbaa.M
end
section
/- Numbers drawn out of a code. No conditions. -/
namespace Go.Proofs.Ytbdnellgioimbaa.M
set_option linter.unusedVariables false
set_option linter.unusedSimpArgs false
open Go.RowKit Go.Proofs.YtbdnellgioimbaaW.PrintWords Go.Proofs.YtbdnellgioimbaaW.PrintLast Go.Proofs.YtbdnellgioimbaaW.PrintMore Go.Proofs.Ytbdnellgioimbaa.A
theorem and255 (n : Int) : Go.bits .and .i64 n 255 = n % 256 := by
  have h : (BitVec.ofInt 64 255).toNat = 2 ^ 8 - 1 := by decide
  have key : (BitVec.ofInt 64 n &&& BitVec.ofInt 64 255).toNat = (n % ((2 ^ 64 : Nat) : Int)).toNat % 2 ^ 8 := by
    rw [BitVec.toNat_and, BitVec.toNat_ofInt, h, Nat.and_two_pow_sub_one_eq_mod]
  show IntKind.i64.wrap ((BitVec.ofInt 64 n &&& BitVec.ofInt 64 255).toNat : Nat) = n % 256
  rw [key, IntKind.wrap_i64]
  omega
theorem byte_draw (b : List Int) (i h : Int) (hi : 0 ≤ i) (hl : i ≤ b.length) (hb : b.length ≤ 1000000000) : ∃ x i' h', spec_l01Byte.f b i h = some (x, i', h') ∧ 0 ≤ x ∧ x ≤ 255 ∧ 0 ≤ i' ∧ i' ≤ b.length := by
  unfold spec_l01Byte.f
  by_cases c : i < (b.length : Int)
  · have e : wrap64 (i + 1) = i + 1 := w64 (by omega) (by omega)
    simp only [c, hi, if_true, and255, e]
    exact ⟨_, _, _, rfl, by omega, by omega, by omega, by omega⟩
  · simp only [c, if_false, and255]
    exact ⟨_, _, _, rfl, by omega, by omega, by omega, by omega⟩
theorem below_draw (b : List Int) (i h a : Int) (hi : 0 ≤ i) (hl : i ≤ b.length) (hb : b.length ≤ 1000000000) (h0 : 0 < a) (h1 : a ≤ 256) : ∃ x i' h', spec_l01Below.f b i h a = some (x, i', h') ∧ 0 ≤ x ∧ x < a ∧ 0 ≤ i' ∧ i' ≤ b.length := by
  obtain ⟨x, i', h', e, x0, x1, j0, j1⟩ := byte_draw b i h hi hl hb
  unfold spec_l01Below.f
  have c1 : ¬ a ≤ 0 := by omega
  have c2 : ¬ a = 0 := by omega
  simp only [c1, h1, e, c2, if_true, if_false, Option.bind_some]
  refine ⟨_, _, _, rfl, ?_, ?_, j0, j1⟩
  · rw [Int.tmod_eq_emod_of_nonneg x0]
    exact Int.emod_nonneg _ c2
  · rw [Int.tmod_eq_emod_of_nonneg x0]
    exact Int.emod_lt_of_pos _ h0
theorem new_draw (b : List Int) (hb : b.length ≤ 1000000000) : ∃ h, Ev (fun k => spec_l01New.f k b) (b, 0, h) := by
  unfold spec_l01New.f
  have H : ∀ (d i : Nat) (x : Int), i + d = b.length → ∃ h, Ev (fun k => spec_l01New.l0 k b x (i : Int)) (b, 0, h) := by
    intro d
    induction d with
    | zero =>
      intro i x hi
      refine ⟨x, ev_succ ?_⟩
      have c1 : ¬ ((i : Int) < (b.length : Int)) := by omega
      simp only [spec_l01New.l0, c1, if_false]
      exact Ev.now _
    | succ d ih =>
      intro i x hi
      have c1 : (i : Int) < (b.length : Int) := by omega
      have c2 : (0 : Int) ≤ (i : Int) := by omega
      have c3 := w64s i (by omega)
      by_cases c4 : (i : Int) < 4000
      · obtain ⟨h, e⟩ := ih (i + 1) (Go.bits .and .i64 (wrap64 ((wrap64 ((wrap64 (x * 109)) + (wrap64 (rd b (i : Int))))) + 7)) 1073741823) (by omega)
        refine ⟨h, ev_succ ?_⟩
        simp only [spec_l01New.l0, c1, c2, c3, c4, if_true]
        exact e
      · refine ⟨x, ev_succ ?_⟩
        simp only [spec_l01New.l0, c1, c4, if_true, if_false]
        exact Ev.now _
  exact H b.length 0 _ (by omega)
theorem skip_draw (b : List Int) (hb : b.length ≤ 1000000000) (n : Nat) (hn : n ≤ 1000) : ∃ i h, 0 ≤ i ∧ i ≤ (b.length : Int) ∧ Ev (fun k => spec_l20New.f k b (n : Int)) (b, i, h) := by
  unfold spec_l20New.f
  obtain ⟨h0, e0⟩ := new_draw b hb
  have H : ∀ (d j : Nat) (i h : Int), j + d = n → 0 ≤ i → i ≤ (b.length : Int) → ∃ i' h', 0 ≤ i' ∧ i' ≤ (b.length : Int) ∧ Ev (fun k => spec_l20New.l0 k b i h (n : Int) (j : Int)) (b, i', h') := by
    intro d
    induction d with
    | zero =>
      intro j i h hj i0 i1
      obtain rfl : j = n := by omega
      refine ⟨i, h, i0, i1, ev_succ ?_⟩
      have c1 : ¬ ((j : Int) < (j : Int)) := by omega
      simp only [spec_l20New.l0, c1, if_false]
      exact Ev.now _
    | succ d ih =>
      intro j i h hj i0 i1
      obtain ⟨x, i', h', e, _, _, j0, j1⟩ := byte_draw b i h i0 i1 hb
      obtain ⟨i2, h2, k0, k1, k2⟩ := ih (j + 1) i' h' (by omega) j0 j1
      refine ⟨i2, h2, k0, k1, ev_succ ?_⟩
      have c1 : (j : Int) < (n : Int) := by omega
      have c3 := w64s j (by omega)
      simp only [spec_l20New.l0, c1, e, c3, if_true, Option.bind_some]
      exact k2
  obtain ⟨i, h, i0, i1, e1⟩ := H n 0 0 h0 (by omega) (by omega) (by omega)
  exact ⟨i, h, i0, i1, Ev.bind e0 e1⟩
end Go.Proofs.Ytbdnellgioimbaa.M
end
section
/- Drawn surfaces. No conditions. -/
namespace Go.Proofs.Ytbdnellgioimbaa.M
set_option linter.unusedVariables false
set_option linter.unusedSimpArgs false
open Go.RowKit Go.Proofs.YtbdnellgioimbaaW.PrintWords Go.Proofs.YtbdnellgioimbaaW.PrintLast Go.Proofs.YtbdnellgioimbaaW.PrintMore Go.Proofs.Ytbdnellgioimbaa.A
theorem perm_draw (b : List Int) (hb : b.length ≤ 1000000000) (n : Nat) (hn : n ≤ 100) (i h : Int) (hi : 0 ≤ i) (hl : i ≤ b.length) : ∃ l i' h', l.length = n ∧ 0 ≤ i' ∧ i' ≤ (b.length : Int) ∧ Ev (fun k => spec_l02Draw.f k b i h (n : Int)) (l, i', h') := by
  unfold spec_l02Draw.f
  have H : ∀ (d j : Nat) (l : List Int) (i h : Int), j + d = n → l.length = j → 0 ≤ i → i ≤ (b.length : Int) → ∃ l' i' h', l'.length = n ∧ 0 ≤ i' ∧ i' ≤ (b.length : Int) ∧ Ev (fun k => spec_l02Draw.l0 k (n : Int) l (j : Int) b i h) (l', i', h') := by
    intro d
    induction d with
    | zero =>
      intro j l i h hj hl i0 i1
      obtain rfl : j = n := by omega
      refine ⟨l, i, h, hl, i0, i1, ev_succ ?_⟩
      have c1 : ¬ ((j : Int) < (j : Int)) := by omega
      simp only [spec_l02Draw.l0, c1, if_false]
      exact Ev.now _
    | succ d ih =>
      intro j l i h hj hl i0 i1
      obtain ⟨x, i', h', e, x0, x1, j0, j1⟩ := below_draw b i h ((j + 1 : Nat) : Int) i0 i1 hb (by omega) (by omega)
      have hlen : (l ++ [(j : Int)]).length = j + 1 := by simp [hl]
      obtain ⟨l2, i2, h2, k0, k1, k2, k3⟩ := ih (j + 1) (((l ++ [(j : Int)]).set ((j : Int)).toNat (rd (l ++ [(j : Int)]) x)).set x.toNat (j : Int)) i' h' (by omega) (by rw [List.length_set, List.length_set, hlen]) j0 j1
      refine ⟨l2, i2, h2, k0, k1, k2, ev_succ ?_⟩
      have c1 : (j : Int) < (n : Int) := by omega
      have c2 : l.length < 17592186044416 := by omega
      have c4 : x < ((l ++ [(j : Int)]).length : Int) := by rw [hlen]; exact x1
      have c5 : (0 : Int) ≤ (j : Int) := by omega
      have c6 : (j : Int) < ((l ++ [(j : Int)]).length : Int) := by rw [hlen]; omega
      have c3 := w64s j (by omega)
      simp only [spec_l02Draw.l0, c1, c2, c3, e, x0, c4, c5, c6, if_true, Option.bind_some]
      exact k3
  exact H n 0 [] i h (by omega) rfl hi hl
def smallS : Option (List Int × List Int × Bool) → Bool
  | some z => surfB z.1 z.2.1 && decide (z.1.length ≤ 12)
  | none => false
theorem smallS_ok : ∀ {z : Option (List Int × List Int × Bool)}, smallS z = true → ∃ r u b, z = some (I r, I u, b) ∧ Sf r u ∧ r.length ≤ 12
  | none, h => by cases h
  | some (x, y, b), h => by
    have h' := (Bool.and_eq_true _ _).mp h
    obtain ⟨r, u, e1, e2, hs⟩ := surf_nat h'.1
    have e1 : x = I r := e1
    have e2 : y = I u := e2
    have h2 : x.length ≤ 12 := of_decide_eq_true h'.2
    refine ⟨r, u, b, by rw [e1, e2], hs, ?_⟩
    rw [e1, I_len] at h2
    exact h2
theorem ell_tab : ∀ a : Fin 6, ∀ b : Fin 5, 1 ≤ a.val → 1 ≤ b.val → smallS (spec_EllOf.f 400 (a.val : Int) (b.val : Int)) = true := by decide +kernel
theorem torus_tab : ∀ a : Fin 5, ∀ b : Fin 4, 1 ≤ a.val → 1 ≤ b.val → smallS (spec_TorusOf.f 400 (a.val : Int) (b.val : Int)) = true := by decide +kernel
theorem ell_ev (a b : Nat) (h1 : 1 ≤ a) (h2 : a ≤ 5) (h3 : 1 ≤ b) (h4 : b ≤ 4) : ∃ r u c, Ev (fun k => spec_EllOf.f k (a : Int) (b : Int)) (I r, I u, c) ∧ Sf r u ∧ r.length ≤ 12 := by
  obtain ⟨r, u, c, e, hs, hl⟩ := smallS_ok (ell_tab ⟨a, by omega⟩ ⟨b, by omega⟩ h1 h3)
  exact ⟨r, u, c, Ev.of (fun k => spec_EllOf.mono _ _ _) e, hs, hl⟩
theorem torus_ev (a b : Nat) (h1 : 1 ≤ a) (h2 : a ≤ 4) (h3 : 1 ≤ b) (h4 : b ≤ 3) : ∃ r u c, Ev (fun k => spec_TorusOf.f k (a : Int) (b : Int)) (I r, I u, c) ∧ Sf r u ∧ r.length ≤ 12 := by
  obtain ⟨r, u, c, e, hs, hl⟩ := smallS_ok (torus_tab ⟨a, by omega⟩ ⟨b, by omega⟩ h1 h3)
  exact ⟨r, u, c, Ev.of (fun k => spec_TorusOf.mono _ _ _) e, hs, hl⟩
theorem surf_draw (b : List Int) (hb : b.length ≤ 1000000000) (m : Nat) (h1 : 1 ≤ m) (h2 : m ≤ 5) (i h : Int) (hi : 0 ≤ i) (hl : i ≤ b.length) : ∃ r u i' h', (Sf r u ∧ r.length ≤ 12) ∧ Ev (fun k => spec_l03Draw.f k b i h (m : Int)) (I r, I u, i', h') := by
  obtain ⟨x, i1, h1', e, x0, x1, j0, j1⟩ := below_draw b i h (m : Int) hi hl hb (by omega) (by omega)
  unfold spec_l03Draw.f
  obtain ⟨n, hn⟩ : ∃ n : Nat, wrap64 (1 + x) = (n : Int) ∧ 1 ≤ n ∧ n ≤ 5 := ⟨(1 + x).toNat, by rw [w64 (by omega) (by omega)]; omega, by omega, by omega⟩
  obtain ⟨hn, n1, n5⟩ := hn
  simp only [e, Option.bind_some, hn]
  clear e hn
  have H : ∀ (d t : Nat) (i h : Int), t + d = 8 → 0 ≤ i → i ≤ (b.length : Int) → ∃ r u i' h', (Sf r u ∧ r.length ≤ 12) ∧ Ev (fun k => spec_l03Draw.l0 k (n : Int) (t : Int) b i h) (I r, I u, i', h') := by
    intro d
    induction d with
    | zero =>
      intro t i h ht i0 i1
      obtain rfl : t = 8 := by omega
      obtain ⟨r, u, c, e, hs, hl⟩ := ell_ev n 1 n1 n5 (by omega) (by omega)
      refine ⟨r, u, i, h, ⟨hs, hl⟩, ev_succ ?_⟩
      have c1 : ¬ (((8 : Nat) : Int) < 8) := by omega
      simp only [spec_l03Draw.l0, c1, if_false]
      exact Ev.bind e (Ev.now _)
    | succ d ih =>
      intro t i h ht i0 i1
      obtain ⟨p, i2, h2, pl, j0, j1, e1⟩ := perm_draw b hb n (by omega) i h i0 i1
      obtain ⟨q, i3, h3, ql, k0, k1, e2⟩ := perm_draw b hb n (by omega) i2 h2 j0 j1
      have c1 : (t : Int) < 8 := by omega
      have c2 := w64s t (by omega)
      by_cases hs : surfB p q = true
      · have hs' := hs
        obtain ⟨r, u, rfl, rfl, hsf⟩ := surf_nat hs
        rw [I_len] at pl
        refine ⟨r, u, i3, h3, ⟨hsf, by omega⟩, ev_succ ?_⟩
        simp only [spec_l03Draw.l0, c1, if_true]
        refine Ev.bind e1 (Ev.bind e2 (Ev.bind (spec_surf _ _) ?_))
        simp only [hs', if_true]
        exact Ev.now _
      · obtain ⟨r, u, i4, h4, hh, e4⟩ := ih (t + 1) i3 h3 (by omega) k0 k1
        refine ⟨r, u, i4, h4, hh, ev_succ ?_⟩
        simp only [spec_l03Draw.l0, c1, c2, if_true]
        refine Ev.bind e1 (Ev.bind e2 (Ev.bind (spec_surf _ _) ?_))
        simp only [hs, if_false]
        exact e4
  exact H 8 0 _ _ (by omega) j0 j1
theorem spec_shear {r u : List Nat} (hs : Sf r u) : Ev (fun k => spec_l05Shear.f k (I r) (I u)) (I r, I (thn (inv r) u)) := by
  have hle := hs.le
  unfold spec_l05Shear.f
  have c1 : ([] : List Int).length + (I r).length < 17592186044416 := by rw [I_len]; simp; omega
  simp only [Option.bind_some, c1, if_true, List.nil_append]
  refine Ev.bind (spec_inv hs.pr hs.le) (Ev.bind (spec_then (p := inv r) (q := u) (fun i hi => ?_) (by rw [inv_len]; omega)) (Ev.now _))
  have := g_lt (isP_inv hs.pr) hi
  rw [inv_len] at this
  rw [hs.eq]
  exact this
theorem makeSurf_ev (b : List Int) (hb : b.length ≤ 1000000000) : ∃ r u, Sf r u ∧ r.length ≤ 12 ∧ Ev (fun k => spec_MakeSurface.f k b) (I r, I u) := by
  obtain ⟨h0, e0⟩ := new_draw b hb
  unfold spec_MakeSurface.f
  obtain ⟨x, i1, h1, e1, x0, x1, j0, j1⟩ := below_draw b 0 h0 4 (by omega) (by omega) hb (by omega) (by omega)
  by_cases cx : x = 0
  · obtain ⟨y, i2, h2, e2, y0, y1, k0, k1⟩ := below_draw b i1 h1 4 j0 j1 hb (by omega) (by omega)
    obtain ⟨z, i3, h3, e3, z0, z1, l0, l1⟩ := below_draw b i2 h2 3 k0 k1 hb (by omega) (by omega)
    obtain ⟨v, i4, h4, e4, v0, v1, m0, m1⟩ := below_draw b i3 h3 4 l0 l1 hb (by omega) (by omega)
    obtain ⟨r, u, c, et, hs, hl⟩ := torus_ev (1 + y).toNat (1 + z).toNat (by omega) (by omega) (by omega) (by omega)
    have wy : wrap64 (1 + y) = (((1 + y).toNat : Nat) : Int) := by rw [w64 (by omega) (by omega)]; omega
    have wz : wrap64 (1 + z) = (((1 + z).toNat : Nat) : Int) := by rw [w64 (by omega) (by omega)]; omega
    have H : ∀ (n : Nat), n ≤ 4 → ∀ r u, Sf r u → r.length ≤ 12 → ∃ r' u', Sf r' u' ∧ r'.length ≤ 12 ∧ Ev (fun k => spec_MakeSurface.l0 k (n : Int) (I r) (I u)) (I r', I u') := by
      intro n
      induction n with
      | zero =>
        intro _ r u hs hl
        refine ⟨r, u, hs, hl, ev_succ ?_⟩
        have c1 : ¬ (((0 : Nat) : Int) > 0) := by omega
        simp only [spec_MakeSurface.l0, c1, if_false]
        exact Ev.now _
      | succ n ih =>
        intro hn r u hs hl
        obtain ⟨r', u', g1, g2, g3⟩ := ih (by omega) r _ (sf_T hs) hl
        refine ⟨r', u', g1, g2, ev_succ ?_⟩
        have c1 : ((n + 1 : Nat) : Int) > 0 := by omega
        have c2 : wrap64 (((n + 1 : Nat) : Int) - 1) = (n : Int) := by rw [w64 (by omega) (by omega)]; omega
        simp only [spec_MakeSurface.l0, c1, c2, if_true]
        exact Ev.bind (spec_shear hs) g3
    obtain ⟨r', u', g1, g2, g3⟩ := H v.toNat (by omega) r u hs hl
    rw [Int.toNat_of_nonneg v0] at g3
    refine ⟨r', u', g1, g2, Ev.bind e0 ?_⟩
    simp only [e1, e2, e3, e4, Option.bind_some, cx, wy, wz, if_true]
    exact Ev.bind et g3
  · by_cases cx1 : x = 1
    · obtain ⟨y, i2, h2, e2, y0, y1, k0, k1⟩ := below_draw b i1 h1 4 j0 j1 hb (by omega) (by omega)
      obtain ⟨z, i3, h3, e3, z0, z1, l0, l1⟩ := below_draw b i2 h2 4 k0 k1 hb (by omega) (by omega)
      obtain ⟨r, u, c, et, hs, hl⟩ := ell_ev (1 + y).toNat (1 + z).toNat (by omega) (by omega) (by omega) (by omega)
      have wy : wrap64 (1 + y) = (((1 + y).toNat : Nat) : Int) := by rw [w64 (by omega) (by omega)]; omega
      have wz : wrap64 (1 + z) = (((1 + z).toNat : Nat) : Int) := by rw [w64 (by omega) (by omega)]; omega
      refine ⟨r, u, hs, hl, Ev.bind e0 ?_⟩
      have c1 : ¬ ((1 : Int) = 0) := by omega
      simp only [e1, e2, e3, Option.bind_some, cx1, c1, wy, wz, if_true, if_false]
      exact Ev.bind et (Ev.now _)
    · obtain ⟨r, u, i2, h2, ⟨hs, hl⟩, e2⟩ := surf_draw b hb 5 (by omega) (by omega) i1 h1 j0 j1
      refine ⟨r, u, hs, hl, Ev.bind e0 ?_⟩
      simp only [e1, Option.bind_some, cx, cx1, if_false]
      exact Ev.bind e2 (Ev.now _)
end Go.Proofs.Ytbdnellgioimbaa.M
end
section
/- Slopes drawn out of a code. No conditions. -/
namespace Go.Proofs.Ytbdnellgioimbaa.M
set_option linter.unusedVariables false
set_option linter.unusedSimpArgs false
open Go.RowKit Go.Proofs.YtbdnellgioimbaaW.PrintWords Go.Proofs.YtbdnellgioimbaaW.PrintLast Go.Proofs.YtbdnellgioimbaaW.PrintMore Go.Proofs.Ytbdnellgioimbaa.A
def slopeOf (p q : Int) : Option (Int × Int) := if (wrap64 (p + q)) = 0 then ((spec_l08Gcd.f 60 1 q).bind fun t458 => (if t458 = 0 then (none) else (some (wrap64 (Int.tdiv (1 : Int) t458), wrap64 (Int.tdiv q t458))))) else ((spec_l08Gcd.f 60 p q).bind fun t459 => (if t459 = 0 then (none) else (some (wrap64 (Int.tdiv p t459), wrap64 (Int.tdiv q t459)))))
theorem slopeOf_ev (a c : Nat) : ∀ z, slopeOf (a : Int) (c : Int) = some z → Ev (fun k => if (wrap64 ((a : Int) + (c : Int))) = 0 then ((spec_l08Gcd.f k 1 (c : Int)).bind fun t458 => (if t458 = 0 then (none) else (some (wrap64 (Int.tdiv (1 : Int) t458), wrap64 (Int.tdiv (c : Int) t458))))) else ((spec_l08Gcd.f k (a : Int) (c : Int)).bind fun t459 => (if t459 = 0 then (none) else (some (wrap64 (Int.tdiv (a : Int) t459), wrap64 (Int.tdiv (c : Int) t459)))))) z := by
  intro z hz
  refine Ev.of (k := 60) (fun k => ?_) hz
  exact LeO.ite (LeO.bind (spec_l08Gcd.mono _ _ _) (fun _ => LeO.refl _)) (LeO.bind (spec_l08Gcd.mono _ _ _) (fun _ => LeO.refl _))
def okOpt : Option (Int × Int) → Bool
  | some t => slopeOkI t.1 t.2
  | none => false
theorem slopeOf_tab : ∀ a : Fin 7, ∀ b : Fin 6, okOpt (slopeOf (a.val : Int) (b.val : Int)) = true := by decide +kernel
theorem slopeOf_ok (a c : Nat) (ha : a < 7) (hc : c < 6) : ∃ p q : Fin 13, slopeOf (a : Int) (c : Int) = some ((p.val : Int), (q.val : Int)) ∧ slopeOkI (p.val : Int) (q.val : Int) = true := by
  have t : okOpt (slopeOf (a : Int) (c : Int)) = true := slopeOf_tab ⟨a, ha⟩ ⟨c, hc⟩
  generalize slopeOf (a : Int) (c : Int) = z at t ⊢
  cases z with
  | none => cases t
  | some z =>
    obtain ⟨p, q⟩ := z
    change slopeOkI p q = true at t
    obtain ⟨⟨p0, p1⟩, q0, q1⟩ := slope_in t
    refine ⟨⟨p.toNat, by omega⟩, ⟨q.toNat, by omega⟩, ?_, ?_⟩
    · dsimp only
      rw [Int.toNat_of_nonneg p0, Int.toNat_of_nonneg q0]
    · dsimp only
      rw [Int.toNat_of_nonneg p0, Int.toNat_of_nonneg q0]
      exact t
theorem makeSlope_ev (b : List Int) (hb : b.length ≤ 1000000000) (n : Nat) (hn : n ≤ 1000) : ∃ p q : Fin 13, slopeOkI (p.val : Int) (q.val : Int) = true ∧ Ev (fun k => spec_MakeSlope.f k b (n : Int)) ((p.val : Int), (q.val : Int)) := by
  obtain ⟨i, h, i0, i1, e⟩ := skip_draw b hb n hn
  obtain ⟨x, i2, h2, e2, x0, x1, j0, j1⟩ := below_draw b i h 7 i0 i1 hb (by omega) (by omega)
  obtain ⟨y, i3, h3, e3, y0, y1, _, _⟩ := below_draw b i2 h2 6 j0 j1 hb (by omega) (by omega)
  obtain ⟨p, q, s1, s2⟩ := slopeOf_ok x.toNat y.toNat (by omega) (by omega)
  have key := slopeOf_ev x.toNat y.toNat _ s1
  rw [Int.toNat_of_nonneg x0, Int.toNat_of_nonneg y0] at key
  refine ⟨p, q, s2, ?_⟩
  unfold spec_MakeSlope.f
  refine Ev.bind e ?_
  simp only [e2, e3, Option.bind_some]
  exact key
end Go.Proofs.Ytbdnellgioimbaa.M
end
