/- Lemmas for the row FnExactQuotientGenus: the program's functions told as plain functions, and plain mathematics. No conditions. -/
import Derived.Test.YtlbcafniodfdgaaQFnExactQuotientGenus3
section
namespace Go.Proofs.Ytlbcafniodfdgaa.A
open Go.RowKit Go.Proofs.YtlbcafniodfdgaaW.PrintWords Go.Proofs.YtlbcafniodfdgaaW.PrintLast Go.Proofs.YtlbcafniodfdgaaW.PrintMore
attribute [local go_sem] max2_int min2_int max_two min_two max_three min_three max_four min_four
set_option linter.unusedVariables false
set_option linter.unusedSimpArgs false
def impl_CornersOf.f (k : Nat) (l0_0 : List Int) (l0_1 : List Int) : Option ((List (List Int))) := (impl_SurfaceOk.f k l0_0 l0_1).bind fun t901 => (if t901 = true then ((impl_AroundOf.f k l0_0 l0_1).bind fun t902 => ((impl_CyclesOf.f k t902).bind fun t905 => (some t905))) else (some ([] : List (List Int))))
theorem impl_CornersOf.mono : ∀ a0 a1 k, LeO (impl_CornersOf.f k a0 a1) (impl_CornersOf.f (k + 1) a0 a1) := by
  intro a0 a1 k
  unfold impl_CornersOf.f
  repeat' first
      | (with_reducible exact impl_AroundOf.mono _ _ _)
      | (with_reducible exact impl_CyclesOf.mono _ _)
      | (with_reducible exact impl_SurfaceOk.mono _ _ _)
      | (with_reducible exact LeO.refl _)
      | (with_reducible exact LeO.none _)
      | (with_reducible refine LeO.ite ?_ ?_)
      | (with_reducible refine LeO.bind ?_ (fun _ => ?_))
      | exact impl_AroundOf.mono _ _ _
      | exact impl_CyclesOf.mono _ _
      | exact impl_SurfaceOk.mono _ _ _
      | exact LeO.none _
      | refine LeO.ite ?_ ?_
      | refine LeO.bind ?_ (fun _ => ?_)
set_option maxHeartbeats 8000000 in
set_option maxRecDepth 100000 in
theorem impl_CornersOf.calls (k : Nat) (A0_0 : Option Addr) (c0_0 : Nat) (l0_0 : List Int) (A0_1 : Option Addr) (c0_1 : Nat) (l0_1 : List Int) (r : List (List Int)) (w : World) (hr0_0 : Kd.C (Kd.int .i64) w A0_0 l0_0.length l0_0) (hc0_0 : l0_0.length ≤ c0_0) (hr0_1 : Kd.C (Kd.int .i64) w A0_1 l0_1.length l0_1) (hc0_1 : l0_1.length ≤ c0_1) (h : impl_CornersOf.f k l0_0 l0_1 = some r) :
    Calls Try.prog 86 #[.agg #[.slice A0_0 l0_0.length c0_0, .slice A0_1 l0_1.length c0_1]] w fun e w' => ∃ v0_ : Value, e = .returned (v0_) ∧ Kd.S (Kd.slice 3 (Kd.int .i64)) 29 w' w.heap.size (fun _ => True) v0_ r ∧ Below w.heap.size w w' := by
  have hu34 := Try.underlying34
  have HR0_0 := Aside0.mk hr0_0
  have HC0_0 := Aside0.mk hc0_0
  clear hr0_0 hc0_0
  have HR0_1 := Aside0.mk hr0_1
  have HC0_1 := Aside0.mk hc0_1
  clear hr0_1 hc0_1
  have HB := Aside0.mk (Below.refl w.heap.size w)
  have H : ((impl_SurfaceOk.f k l0_0 l0_1).bind fun t901 => (if t901 = true then ((impl_AroundOf.f k l0_0 l0_1).bind fun t902 => ((impl_CyclesOf.f k t902).bind fun t905 => (some t905))) else (some ([] : List (List Int))))) = some r := h
  clear h
  replace H := Option.bind_eq_some_iff.mp H
  obtain ⟨t901, A20, H⟩ := H
  replace H : (if t901 = true then ((impl_AroundOf.f k l0_0 l0_1).bind fun t902 => ((impl_CyclesOf.f k t902).bind fun t905 => (some t905))) else (some ([] : List (List Int)))) = some r := H
  have A2 := Aside0.mk A20
  clear A20
  by_cases c3 : t901 = true
  · subst c3
    have H1 : ((impl_AroundOf.f k l0_0 l0_1).bind fun t902 => ((impl_CyclesOf.f k t902).bind fun t905 => (some t905))) = some r := by rw [if_pos rfl] at H; exact H
    clear H
    have H := H1
    clear H1
    replace H := Option.bind_eq_some_iff.mp H
    obtain ⟨t902, A40, H⟩ := H
    replace H : ((impl_CyclesOf.f k t902).bind fun t905 => (some t905)) = some r := H
    have A4 := Aside0.mk A40
    clear A40
    replace H := Option.bind_eq_some_iff.mp H
    obtain ⟨t905, A50, H⟩ := H
    replace H : (some t905) = some r := H
    have A5 := Aside0.mk A50
    clear A50
    obtain rfl := Option.some.inj H
    go_enter Try.func86, Try.ntmps86
    go_wp2_with (first | ((with_reducible refine gate_dst (N := 1) rfl ?_); refine box_event ?hg (N := 1) ?hd (cs := #[.slice A0_0 l0_0.length c0_0, .slice A0_1 l0_1.length c0_1]) (t := 34) ?hr ?_; (case hd => rfl); (case hg => rfl); (case hr => first | (go_simp; done) | (go_simp; rfl)); intro gb900 hg w6 hbox hb; have n0_ := Aside0.mk (below_step (by repeat (first | (with_reducible first | exact HB.out | apply below_alloc | apply pw_below_drewN | apply below_drew1) | exact HB.out)) hb); have n1_ := Aside0.mk (hbox); have n2_ := Aside0.mk ((by rw [hg]; exact (below_size (by repeat (first | (with_reducible first | exact HB.out | apply below_alloc | apply pw_below_drewN | apply below_drew1) | exact HB.out))) : w.heap.size ≤ gb900)); have n3_ := Aside0.mk ((by rw [hg]; exact (below_size (by repeat (first | (with_reducible first | exact HB.out | apply below_alloc | apply pw_below_drewN | apply below_drew1) | exact HB.out))) : w.heap.size ≤ gb900)); clear HB; have HB := n0_; have BK900 := n1_; have GW900 := n2_; have GE900 := n3_; clear n0_ n1_ n2_ n3_; clear hb hbox hg; have hcz7_0 : w6.cell? ⟨gb900, 0, none⟩ = some (.slice A0_0 l0_0.length c0_0) := (blk_cell BK900.out 0).trans rfl; have hcz7_1 : w6.cell? ⟨gb900, 1, none⟩ = some (.slice A0_1 l0_1.length c0_1) := (blk_cell BK900.out 1).trans rfl; have hfz7_0 := blk_frozen BK900.out 0; have hfz7_1 := blk_frozen BK900.out 1) | ((with_reducible refine gate_callee (f := 61) rfl ?_); refine goesL_ (some 4) rfl rfl Try.func61 (by kernel_rfl) rfl #[.agg #[.slice A0_0 l0_0.length c0_0, .slice A0_1 l0_1.length c0_1]] rfl (by (try simp only [List.map_toArray, List.map_cons, List.map_nil]); first | done | rfl | (simp only [List.length_drop, List.length_take]; rfl)) ?_; (with_reducible refine (impl_SurfaceOk.calls k _ _ l0_0 _ _ l0_1 true _ ?side1 ?side2 ?side3 ?side4 A2.out).mono ?_); (case side1 => repeat (first | exact (Kd.C_below HR0_0.out HB.out) | (with_reducible refine Kd.C_alloc ?_ _) | (with_reducible refine Kd.C_drewN ?_ _) | (with_reducible refine Kd.C_drew ?_))); (case side2 => exact HC0_0.out); (case side3 => repeat (first | exact (Kd.C_below HR0_1.out HB.out) | (with_reducible refine Kd.C_alloc ?_ _) | (with_reducible refine Kd.C_drewN ?_ _) | (with_reducible refine Kd.C_drew ?_))); (case side4 => exact HC0_1.out); rintro e w8 ⟨rfl, hb⟩; refine ⟨_, rfl, ?_⟩; have n0_ := Aside0.mk (blk_below (g := gb900) (o := .cells #[.slice A0_0 l0_0.length c0_0, .slice A0_1 l0_1.length c0_1] 34 (0, 0)) (by (with_reducible repeat (first | refine blk_drewN ?_ _ | refine blk_drew ?_ | refine blk_alloc ?_ _)); exact BK900.out) hb); have n1_ := Aside0.mk (below_step (by repeat (first | (with_reducible first | exact HB.out | apply below_alloc | apply pw_below_drewN | apply below_drew1 | refine below_set ?_ GE900.out) | exact HB.out)) hb); clear BK900; clear HB; have BK900 := n0_; have HB := n1_; clear n0_ n1_; (try clear hb); (try clear hb2); (try clear hk); (try clear hi); have hcz9_0 : w8.cell? ⟨gb900, 0, none⟩ = some (.slice A0_0 l0_0.length c0_0) := (blk_cell BK900.out 0).trans rfl; have hcz9_1 : w8.cell? ⟨gb900, 1, none⟩ = some (.slice A0_1 l0_1.length c0_1) := (blk_cell BK900.out 1).trans rfl; have hfz9_0 := blk_frozen BK900.out 0; have hfz9_1 := blk_frozen BK900.out 1) | ((with_reducible refine gate_callee (f := 80) rfl ?_); refine goesL_ (some 7) rfl rfl Try.func80 (by kernel_rfl) rfl #[.agg #[.slice A0_0 l0_0.length c0_0, .slice A0_1 l0_1.length c0_1]] rfl (by (try simp only [List.map_toArray, List.map_cons, List.map_nil]); first | done | rfl | (simp only [List.length_drop, List.length_take]; rfl)) ?_; (with_reducible refine (impl_AroundOf.calls k _ _ l0_0 _ _ l0_1 t902 _ ?side1 ?side2 ?side3 ?side4 A4.out).mono ?_); (case side1 => repeat (first | exact (Kd.C_below HR0_0.out HB.out) | (with_reducible refine Kd.C_alloc ?_ _) | (with_reducible refine Kd.C_drewN ?_ _) | (with_reducible refine Kd.C_drew ?_))); (case side2 => exact HC0_0.out); (case side3 => repeat (first | exact (Kd.C_below HR0_1.out HB.out) | (with_reducible refine Kd.C_alloc ?_ _) | (with_reducible refine Kd.C_drewN ?_ _) | (with_reducible refine Kd.C_drew ?_))); (case side4 => exact HC0_1.out); rintro e w10 ⟨v903, rfl, ho0, hb⟩; refine ⟨_, rfl, ?_⟩; have n0_ := Aside0.mk (Kd.R_lower ho0 (below_size (by repeat (first | (with_reducible first | exact HB.out | apply below_alloc | apply pw_below_drewN | apply below_drew1 | refine below_set ?_ GE900.out) | exact HB.out)))); have n1_ := Aside0.mk (blk_below (g := gb900) (o := .cells #[.slice A0_0 l0_0.length c0_0, .slice A0_1 l0_1.length c0_1] 34 (0, 0)) (by (with_reducible repeat (first | refine blk_drewN ?_ _ | refine blk_drew ?_ | refine blk_alloc ?_ _)); exact BK900.out) hb); have n2_ := Aside0.mk (below_step (by repeat (first | (with_reducible first | exact HB.out | apply below_alloc | apply pw_below_drewN | apply below_drew1 | refine below_set ?_ GE900.out) | exact HB.out)) hb); clear BK900; clear HB; have HO904 := n0_; have BK900 := n1_; have HB := n2_; clear n0_ n1_ n2_; (try clear hb); (try clear hb2); (try clear hk); (try clear hi); (try clear ho0); obtain ⟨Ao11, co11, eo11⟩ := Kd.R_slice HO904.out; subst eo11) | ((with_reducible refine gate_callee (f := 69) rfl ?_); refine goesL_ (some 8) rfl rfl Try.func69 (by kernel_rfl) rfl #[.slice Ao11 t902.length co11] rfl (by (try simp only [List.map_toArray, List.map_cons, List.map_nil]); first | done | rfl | (simp only [List.length_drop, List.length_take]; rfl)) ?_; (with_reducible refine (impl_CyclesOf.calls k _ _ t902 t905 _ ?side1 ?side2 A5.out).mono ?_); (case side1 => repeat (first | exact (Kd.R_reads' HO904.out).2.2 | (with_reducible refine Kd.C_alloc ?_ _) | (with_reducible refine Kd.C_drewN ?_ _) | (with_reducible refine Kd.C_drew ?_))); (case side2 => exact (Kd.R_reads' HO904.out).2.1); rintro e w12 ⟨v906, rfl, ho0, hb⟩; refine ⟨_, rfl, ?_⟩; have n0_ := Aside0.mk (Kd.R_below (by (with_reducible repeat (first | apply Kd.R_alloc | apply Kd.R_drewN | apply Kd.R_drew)); exact HO904.out) hb); have n1_ := Aside0.mk (Kd.S_lower (Kd.S_new' ho0 (Kd.R_lt (by (with_reducible repeat (first | apply Kd.R_alloc | apply Kd.R_drewN | apply Kd.R_drew)); exact HO904.out))) (below_size (by repeat (first | (with_reducible first | exact HB.out | apply below_alloc | apply pw_below_drewN | apply below_drew1 | refine below_set ?_ GE900.out) | exact HB.out)))); have n2_ := Aside0.mk (blk_below (g := gb900) (o := .cells #[.slice A0_0 l0_0.length c0_0, .slice A0_1 l0_1.length c0_1] 34 (0, 0)) (by (with_reducible repeat (first | refine blk_drewN ?_ _ | refine blk_drew ?_ | refine blk_alloc ?_ _)); exact BK900.out) hb); have n3_ := Aside0.mk (below_step (by repeat (first | (with_reducible first | exact HB.out | apply below_alloc | apply pw_below_drewN | apply below_drew1 | refine below_set ?_ GE900.out) | exact HB.out)) hb); clear HO904; clear BK900; clear HB; have HO904 := n0_; have HO907 := n1_; have BK900 := n2_; have HB := n3_; clear n0_ n1_ n2_ n3_; (try clear hb); (try clear hb2); (try clear hk); (try clear hi); (try clear ho0)))
    go_ret
    exact ⟨_, by first | rfl | (simp [errW_none, errW_some] <;> rfl) | (simp [*, errW_none, errW_some] <;> rfl), by (with_reducible repeat (first | apply Kd.S_alloc | apply Kd.S_drewN | apply Kd.S_drew)); exact Kd.S_mono HO907.out (fun _ hk => trivial), by repeat (first | (with_reducible first | exact HB.out | apply below_alloc | apply pw_below_drewN | apply below_drew1 | refine below_set ?_ GE900.out) | exact HB.out)⟩
  · replace c3 := Bool.eq_false_iff.mpr c3
    subst c3
    have H1 : (some ([] : List (List Int))) = some r := by rw [if_neg (show ¬ (false = true) by decide)] at H; exact H
    clear H
    have H := H1
    clear H1
    obtain rfl := Option.some.inj H
    go_enter Try.func86, Try.ntmps86
    go_wp2_with (first | ((with_reducible refine gate_dst (N := 1) rfl ?_); refine box_event ?hg (N := 1) ?hd (cs := #[.slice A0_0 l0_0.length c0_0, .slice A0_1 l0_1.length c0_1]) (t := 34) ?hr ?_; (case hd => rfl); (case hg => rfl); (case hr => first | (go_simp; done) | (go_simp; rfl)); intro gb900 hg w13 hbox hb; have n0_ := Aside0.mk (below_step (by repeat (first | (with_reducible first | exact HB.out | apply below_alloc | apply pw_below_drewN | apply below_drew1) | exact HB.out)) hb); have n1_ := Aside0.mk (hbox); have n2_ := Aside0.mk ((by rw [hg]; exact (below_size (by repeat (first | (with_reducible first | exact HB.out | apply below_alloc | apply pw_below_drewN | apply below_drew1) | exact HB.out))) : w.heap.size ≤ gb900)); have n3_ := Aside0.mk ((by rw [hg]; exact (below_size (by repeat (first | (with_reducible first | exact HB.out | apply below_alloc | apply pw_below_drewN | apply below_drew1) | exact HB.out))) : w.heap.size ≤ gb900)); clear HB; have HB := n0_; have BK900 := n1_; have GW900 := n2_; have GE900 := n3_; clear n0_ n1_ n2_ n3_; clear hb hbox hg; have hcz14_0 : w13.cell? ⟨gb900, 0, none⟩ = some (.slice A0_0 l0_0.length c0_0) := (blk_cell BK900.out 0).trans rfl; have hcz14_1 : w13.cell? ⟨gb900, 1, none⟩ = some (.slice A0_1 l0_1.length c0_1) := (blk_cell BK900.out 1).trans rfl; have hfz14_0 := blk_frozen BK900.out 0; have hfz14_1 := blk_frozen BK900.out 1) | ((with_reducible refine gate_callee (f := 61) rfl ?_); refine goesL_ (some 4) rfl rfl Try.func61 (by kernel_rfl) rfl #[.agg #[.slice A0_0 l0_0.length c0_0, .slice A0_1 l0_1.length c0_1]] rfl (by (try simp only [List.map_toArray, List.map_cons, List.map_nil]); first | done | rfl | (simp only [List.length_drop, List.length_take]; rfl)) ?_; (with_reducible refine (impl_SurfaceOk.calls k _ _ l0_0 _ _ l0_1 false _ ?side1 ?side2 ?side3 ?side4 A2.out).mono ?_); (case side1 => repeat (first | exact (Kd.C_below HR0_0.out HB.out) | (with_reducible refine Kd.C_alloc ?_ _) | (with_reducible refine Kd.C_drewN ?_ _) | (with_reducible refine Kd.C_drew ?_))); (case side2 => exact HC0_0.out); (case side3 => repeat (first | exact (Kd.C_below HR0_1.out HB.out) | (with_reducible refine Kd.C_alloc ?_ _) | (with_reducible refine Kd.C_drewN ?_ _) | (with_reducible refine Kd.C_drew ?_))); (case side4 => exact HC0_1.out); rintro e w15 ⟨rfl, hb⟩; refine ⟨_, rfl, ?_⟩; have n0_ := Aside0.mk (blk_below (g := gb900) (o := .cells #[.slice A0_0 l0_0.length c0_0, .slice A0_1 l0_1.length c0_1] 34 (0, 0)) (by (with_reducible repeat (first | refine blk_drewN ?_ _ | refine blk_drew ?_ | refine blk_alloc ?_ _)); exact BK900.out) hb); have n1_ := Aside0.mk (below_step (by repeat (first | (with_reducible first | exact HB.out | apply below_alloc | apply pw_below_drewN | apply below_drew1 | refine below_set ?_ GE900.out) | exact HB.out)) hb); clear BK900; clear HB; have BK900 := n0_; have HB := n1_; clear n0_ n1_; (try clear hb); (try clear hb2); (try clear hk); (try clear hi)))
    go_ret
    exact ⟨_, by first | rfl | (simp [errW_none, errW_some] <;> rfl) | (simp [*, errW_none, errW_some] <;> rfl), by first | exact Kd.S_nil _ _ _ _ _ | exact Kd.N_nil _ _ _ _ _ | exact Kd.V_nil _ _ _ _ _ | exact Kd.Q_nil _ _ _ _ _ | exact Kd.R_nil _ _ _ _ _, by repeat (first | (with_reducible first | exact HB.out | apply below_alloc | apply pw_below_drewN | apply below_drew1 | refine below_set ?_ GE900.out) | exact HB.out)⟩
end Go.Proofs.Ytlbcafniodfdgaa.A
end
section
namespace Go.Proofs.Ytlbcafniodfdgaa.A
open Go.RowKit Go.Proofs.YtlbcafniodfdgaaW.PrintWords Go.Proofs.YtlbcafniodfdgaaW.PrintLast Go.Proofs.YtlbcafniodfdgaaW.PrintMore
attribute [local go_sem] max2_int min2_int max_two min_two max_three min_three max_four min_four
set_option linter.unusedVariables false
set_option linter.unusedSimpArgs false
mutual
def impl_FixedPoints.l0 : Nat → List Int → List Int → List Int → Int → Int → List Int → List Int → Option (List Int × Bool)
  | 0, _, _, _, _, _, _, _ => none
  | k + 1, x1, x6, x27, x28, x29, x909000, x909001 => if x29 < x28 then (if 0 ≤ x29 then (if x29 < (x27.length : Int) then (if (rd x27 x29) = x29 then (if 0 < (x6.length : Int) then (impl_FixedPoints.j1 k x1 (x6.set (0 : Int).toNat (wrap64 ((rd x6 0) + 1))) x29 (rd x27 x29) x27 x28 x29 x909000 x909001) else (none)) else (impl_FixedPoints.j1 k x1 x6 x29 (rd x27 x29) x27 x28 x29 x909000 x909001)) else (none)) else (none)) else ((impl_InversePerm.f k x909000).bind fun t925 => ((impl_InversePerm.f k x909001).bind fun t928 => (if 0 ≤ (x1.length : Int) then (if ((x1.length : Int) : Int).toNat ≤ 35184372088832 then ((impl_CornersOf.f k x909000 x909001).bind fun t934 => (impl_FixedPoints.l1 k x1 x6 t925 t928 (List.replicate ((x1.length : Int) : Int).toNat 0) t934 t934 (t934.length : Int) 0)) else (none)) else (none))))
def impl_FixedPoints.j1 : Nat → List Int → List Int → Int → Int → List Int → Int → Int → List Int → List Int → Option (List Int × Bool)
  | 0, _, _, _, _, _, _, _, _, _ => none
  | k + 1, x1, x6, x7, x8, x27, x28, x29, x909000, x909001 => if 0 ≤ x7 then (if x7 < (x909000.length : Int) then (if x8 = (rd x909000 x7) then (if 1 < (x6.length : Int) then ((some (x6.set (1 : Int).toNat (wrap64 ((rd x6 1) + 1)) : List Int)).bind fun y918 => (if x7 < (x909001.length : Int) then (if x8 = (rd x909001 x7) then (if 2 < (x6.length : Int) then (impl_FixedPoints.l0 k x1 (y918.set (2 : Int).toNat (wrap64 ((rd y918 2) + 1))) x27 x28 (wrap64 (x29 + 1)) x909000 x909001) else (none)) else (impl_FixedPoints.l0 k x1 y918 x27 x28 (wrap64 (x29 + 1)) x909000 x909001)) else (none))) else (none)) else (if x7 < (x909001.length : Int) then (if x8 = (rd x909001 x7) then (if 2 < (x6.length : Int) then (impl_FixedPoints.l0 k x1 (x6.set (2 : Int).toNat (wrap64 ((rd x6 2) + 1))) x27 x28 (wrap64 (x29 + 1)) x909000 x909001) else (none)) else (impl_FixedPoints.l0 k x1 x6 x27 x28 (wrap64 (x29 + 1)) x909000 x909001)) else (none))) else (none)) else (none)
def impl_FixedPoints.l1 : Nat → List Int → List Int → List Int → List Int → List Int → List (List Int) → List (List Int) → Int → Int → Option (List Int × Bool)
  | 0, _, _, _, _, _, _, _, _, _ => none
  | k + 1, x1, x6, x9, x10, x11, x12, x78, x79, x80 => if x80 < x79 then (if 0 ≤ x80 then (if x80 < (x78.length : Int) then (impl_FixedPoints.l2 k x1 x6 x9 x10 x11 x12 x80 x78 x79 x80 (rd_L3 x78 x80) ((rd_L3 x78 x80).length : Int) 0) else (none)) else (none)) else (impl_FixedPoints.l3 k x1 x6 x9 x10 x11 x12 (x12.length : Int) 0)
def impl_FixedPoints.l2 : Nat → List Int → List Int → List Int → List Int → List Int → List (List Int) → Int → List (List Int) → Int → Int → List Int → Int → Int → Option (List Int × Bool)
  | 0, _, _, _, _, _, _, _, _, _, _, _, _, _ => none
  | k + 1, x1, x6, x9, x10, x11, x12, x13, x78, x79, x80, x85, x86, x87 => if x87 < x86 then (if 0 ≤ x87 then (if x87 < (x85.length : Int) then (if 0 ≤ (rd x85 x87) then (if (rd x85 x87) < (x11.length : Int) then (impl_FixedPoints.l2 k x1 x6 x9 x10 (x11.set ((rd x85 x87) : Int).toNat x13) x12 x13 x78 x79 x80 x85 x86 (wrap64 (x87 + 1))) else (none)) else (none)) else (none)) else (none)) else (impl_FixedPoints.l1 k x1 x6 x9 x10 x11 x12 x78 x79 (wrap64 (x80 + 1)))
def impl_FixedPoints.l3 : Nat → List Int → List Int → List Int → List Int → List Int → List (List Int) → Int → Int → Option (List Int × Bool)
  | 0, _, _, _, _, _, _, _, _ => none
  | k + 1, x1, x6, x9, x10, x11, x97, x98, x99 => if x99 < x98 then (if 0 ≤ x99 then (if x99 < (x97.length : Int) then (impl_FixedPoints.l4 k x1 x6 x9 x10 x11 x99 true x97 x98 x99 (rd_L3 x97 x99) ((rd_L3 x97 x99).length : Int) 0) else (none)) else (none)) else (some (x6, true))
def impl_FixedPoints.l4 : Nat → List Int → List Int → List Int → List Int → List Int → Int → Bool → List (List Int) → Int → Int → List Int → Int → Int → Option (List Int × Bool)
  | 0, _, _, _, _, _, _, _, _, _, _, _, _, _ => none
  | k + 1, x1, x6, x9, x10, x11, x17, x19, x97, x98, x99, x104, x105, x106 => if x106 < x105 then (if 0 ≤ x106 then (if x106 < (x104.length : Int) then (if x19 = true then (if 0 ≤ (rd x104 x106) then (if (rd x104 x106) < (x1.length : Int) then (if 0 ≤ (rd x1 (rd x104 x106)) then (if (rd x1 (rd x104 x106)) < (x9.length : Int) then (if 0 ≤ (rd x9 (rd x1 (rd x104 x106))) then (if (rd x9 (rd x1 (rd x104 x106))) < (x10.length : Int) then (if 0 ≤ (rd x10 (rd x9 (rd x1 (rd x104 x106)))) then (if (rd x10 (rd x9 (rd x1 (rd x104 x106)))) < (x11.length : Int) then (impl_FixedPoints.l4 k x1 x6 x9 x10 x11 x17 ((rd x11 (rd x10 (rd x9 (rd x1 (rd x104 x106))))) == x17) x97 x98 x99 x104 x105 (wrap64 (x106 + 1))) else (none)) else (none)) else (none)) else (none)) else (none)) else (none)) else (none)) else (none)) else (impl_FixedPoints.l4 k x1 x6 x9 x10 x11 x17 false x97 x98 x99 x104 x105 (wrap64 (x106 + 1)))) else (none)) else (none)) else (if x19 = true then (if 3 < (x6.length : Int) then (impl_FixedPoints.l3 k x1 (x6.set (3 : Int).toNat (wrap64 ((rd x6 3) + 1))) x9 x10 x11 x97 x98 (wrap64 (x99 + 1))) else (none)) else (impl_FixedPoints.l3 k x1 x6 x9 x10 x11 x97 x98 (wrap64 (x99 + 1))))
end
def impl_FixedPoints.f (k : Nat) (l0_0 : List Int) (l0_1 : List Int) (l1 : List Int) : Option (List Int × Bool) := (impl_IsTurn.f k l0_0 l0_1 l1).bind fun t909 => (if t909 = true then (if 4 ≤ 35184372088832 then (impl_FixedPoints.l0 k l1 (List.replicate 4 0) l1 (l1.length : Int) 0 l0_0 l0_1) else (none)) else (some (([] : List Int), false)))
theorem impl_FixedPoints.mono_l : ∀ k, (∀ y0 y1 y2 y3 y4 y5 y6, LeO (impl_FixedPoints.l0 k y0 y1 y2 y3 y4 y5 y6) (impl_FixedPoints.l0 (k + 1) y0 y1 y2 y3 y4 y5 y6)) ∧ (∀ y0 y1 y2 y3 y4 y5 y6 y7 y8, LeO (impl_FixedPoints.j1 k y0 y1 y2 y3 y4 y5 y6 y7 y8) (impl_FixedPoints.j1 (k + 1) y0 y1 y2 y3 y4 y5 y6 y7 y8)) ∧ (∀ y0 y1 y2 y3 y4 y5 y6 y7 y8, LeO (impl_FixedPoints.l1 k y0 y1 y2 y3 y4 y5 y6 y7 y8) (impl_FixedPoints.l1 (k + 1) y0 y1 y2 y3 y4 y5 y6 y7 y8)) ∧ (∀ y0 y1 y2 y3 y4 y5 y6 y7 y8 y9 y10 y11 y12, LeO (impl_FixedPoints.l2 k y0 y1 y2 y3 y4 y5 y6 y7 y8 y9 y10 y11 y12) (impl_FixedPoints.l2 (k + 1) y0 y1 y2 y3 y4 y5 y6 y7 y8 y9 y10 y11 y12)) ∧ (∀ y0 y1 y2 y3 y4 y5 y6 y7, LeO (impl_FixedPoints.l3 k y0 y1 y2 y3 y4 y5 y6 y7) (impl_FixedPoints.l3 (k + 1) y0 y1 y2 y3 y4 y5 y6 y7)) ∧ (∀ y0 y1 y2 y3 y4 y5 y6 y7 y8 y9 y10 y11 y12, LeO (impl_FixedPoints.l4 k y0 y1 y2 y3 y4 y5 y6 y7 y8 y9 y10 y11 y12) (impl_FixedPoints.l4 (k + 1) y0 y1 y2 y3 y4 y5 y6 y7 y8 y9 y10 y11 y12))
  | 0 => ⟨fun _ _ _ _ _ _ _ r h => by simp [impl_FixedPoints.l0] at h, fun _ _ _ _ _ _ _ _ _ r h => by simp [impl_FixedPoints.j1] at h, fun _ _ _ _ _ _ _ _ _ r h => by simp [impl_FixedPoints.l1] at h, fun _ _ _ _ _ _ _ _ _ _ _ _ _ r h => by simp [impl_FixedPoints.l2] at h, fun _ _ _ _ _ _ _ _ r h => by simp [impl_FixedPoints.l3] at h, fun _ _ _ _ _ _ _ _ _ _ _ _ _ r h => by simp [impl_FixedPoints.l4] at h⟩
  | k + 1 => by
    obtain ⟨ih0, ih1, ih2, ih3, ih4, ih5⟩ := impl_FixedPoints.mono_l k
    refine ⟨?_, ?_, ?_, ?_, ?_, ?_⟩
    · intro y0 y1 y2 y3 y4 y5 y6
      unfold impl_FixedPoints.l0
      repeat' first
      | (with_reducible exact ih0 _ _ _ _ _ _ _)
      | (with_reducible exact ih1 _ _ _ _ _ _ _ _ _)
      | (with_reducible exact ih2 _ _ _ _ _ _ _ _ _)
      | (with_reducible exact ih3 _ _ _ _ _ _ _ _ _ _ _ _ _)
      | (with_reducible exact ih4 _ _ _ _ _ _ _ _)
      | (with_reducible exact ih5 _ _ _ _ _ _ _ _ _ _ _ _ _)
      | (with_reducible exact impl_CornersOf.mono _ _ _)
      | (with_reducible exact impl_InversePerm.mono _ _)
      | (with_reducible exact impl_IsTurn.mono _ _ _ _)
      | (with_reducible exact LeO.refl _)
      | (with_reducible exact LeO.none _)
      | (with_reducible refine LeO.ite ?_ ?_)
      | (with_reducible refine LeO.bind ?_ (fun _ => ?_))
      | exact ih0 _ _ _ _ _ _ _
      | exact ih1 _ _ _ _ _ _ _ _ _
      | exact ih2 _ _ _ _ _ _ _ _ _
      | exact ih3 _ _ _ _ _ _ _ _ _ _ _ _ _
      | exact ih4 _ _ _ _ _ _ _ _
      | exact ih5 _ _ _ _ _ _ _ _ _ _ _ _ _
      | exact impl_CornersOf.mono _ _ _
      | exact impl_InversePerm.mono _ _
      | exact impl_IsTurn.mono _ _ _ _
      | exact LeO.none _
      | refine LeO.ite ?_ ?_
      | refine LeO.bind ?_ (fun _ => ?_)
    · intro y0 y1 y2 y3 y4 y5 y6 y7 y8
      unfold impl_FixedPoints.j1
      repeat' first
      | (with_reducible exact ih0 _ _ _ _ _ _ _)
      | (with_reducible exact ih1 _ _ _ _ _ _ _ _ _)
      | (with_reducible exact ih2 _ _ _ _ _ _ _ _ _)
      | (with_reducible exact ih3 _ _ _ _ _ _ _ _ _ _ _ _ _)
      | (with_reducible exact ih4 _ _ _ _ _ _ _ _)
      | (with_reducible exact ih5 _ _ _ _ _ _ _ _ _ _ _ _ _)
      | (with_reducible exact impl_CornersOf.mono _ _ _)
      | (with_reducible exact impl_InversePerm.mono _ _)
      | (with_reducible exact impl_IsTurn.mono _ _ _ _)
      | (with_reducible exact LeO.refl _)
      | (with_reducible exact LeO.none _)
      | (with_reducible refine LeO.ite ?_ ?_)
      | (with_reducible refine LeO.bind ?_ (fun _ => ?_))
      | exact ih0 _ _ _ _ _ _ _
      | exact ih1 _ _ _ _ _ _ _ _ _
      | exact ih2 _ _ _ _ _ _ _ _ _
      | exact ih3 _ _ _ _ _ _ _ _ _ _ _ _ _
      | exact ih4 _ _ _ _ _ _ _ _
      | exact ih5 _ _ _ _ _ _ _ _ _ _ _ _ _
      | exact impl_CornersOf.mono _ _ _
      | exact impl_InversePerm.mono _ _
      | exact impl_IsTurn.mono _ _ _ _
      | exact LeO.none _
      | refine LeO.ite ?_ ?_
      | refine LeO.bind ?_ (fun _ => ?_)
    · intro y0 y1 y2 y3 y4 y5 y6 y7 y8
      unfold impl_FixedPoints.l1
      repeat' first
      | (with_reducible exact ih0 _ _ _ _ _ _ _)
      | (with_reducible exact ih1 _ _ _ _ _ _ _ _ _)
      | (with_reducible exact ih2 _ _ _ _ _ _ _ _ _)
      | (with_reducible exact ih3 _ _ _ _ _ _ _ _ _ _ _ _ _)
      | (with_reducible exact ih4 _ _ _ _ _ _ _ _)
      | (with_reducible exact ih5 _ _ _ _ _ _ _ _ _ _ _ _ _)
      | (with_reducible exact impl_CornersOf.mono _ _ _)
      | (with_reducible exact impl_InversePerm.mono _ _)
      | (with_reducible exact impl_IsTurn.mono _ _ _ _)
      | (with_reducible exact LeO.refl _)
      | (with_reducible exact LeO.none _)
      | (with_reducible refine LeO.ite ?_ ?_)
      | (with_reducible refine LeO.bind ?_ (fun _ => ?_))
      | exact ih0 _ _ _ _ _ _ _
      | exact ih1 _ _ _ _ _ _ _ _ _
      | exact ih2 _ _ _ _ _ _ _ _ _
      | exact ih3 _ _ _ _ _ _ _ _ _ _ _ _ _
      | exact ih4 _ _ _ _ _ _ _ _
      | exact ih5 _ _ _ _ _ _ _ _ _ _ _ _ _
      | exact impl_CornersOf.mono _ _ _
      | exact impl_InversePerm.mono _ _
      | exact impl_IsTurn.mono _ _ _ _
      | exact LeO.none _
      | refine LeO.ite ?_ ?_
      | refine LeO.bind ?_ (fun _ => ?_)
    · intro y0 y1 y2 y3 y4 y5 y6 y7 y8 y9 y10 y11 y12
      unfold impl_FixedPoints.l2
      repeat' first
      | (with_reducible exact ih0 _ _ _ _ _ _ _)
      | (with_reducible exact ih1 _ _ _ _ _ _ _ _ _)
      | (with_reducible exact ih2 _ _ _ _ _ _ _ _ _)
      | (with_reducible exact ih3 _ _ _ _ _ _ _ _ _ _ _ _ _)
      | (with_reducible exact ih4 _ _ _ _ _ _ _ _)
      | (with_reducible exact ih5 _ _ _ _ _ _ _ _ _ _ _ _ _)
      | (with_reducible exact impl_CornersOf.mono _ _ _)
      | (with_reducible exact impl_InversePerm.mono _ _)
      | (with_reducible exact impl_IsTurn.mono _ _ _ _)
      | (with_reducible exact LeO.refl _)
      | (with_reducible exact LeO.none _)
      | (with_reducible refine LeO.ite ?_ ?_)
      | (with_reducible refine LeO.bind ?_ (fun _ => ?_))
      | exact ih0 _ _ _ _ _ _ _
      | exact ih1 _ _ _ _ _ _ _ _ _
      | exact ih2 _ _ _ _ _ _ _ _ _
      | exact ih3 _ _ _ _ _ _ _ _ _ _ _ _ _
      | exact ih4 _ _ _ _ _ _ _ _
      | exact ih5 _ _ _ _ _ _ _ _ _ _ _ _ _
      | exact impl_CornersOf.mono _ _ _
      | exact impl_InversePerm.mono _ _
      | exact impl_IsTurn.mono _ _ _ _
      | exact LeO.none _
      | refine LeO.ite ?_ ?_
      | refine LeO.bind ?_ (fun _ => ?_)
    · intro y0 y1 y2 y3 y4 y5 y6 y7
      unfold impl_FixedPoints.l3
      repeat' first
      | (with_reducible exact ih0 _ _ _ _ _ _ _)
      | (with_reducible exact ih1 _ _ _ _ _ _ _ _ _)
      | (with_reducible exact ih2 _ _ _ _ _ _ _ _ _)
      | (with_reducible exact ih3 _ _ _ _ _ _ _ _ _ _ _ _ _)
      | (with_reducible exact ih4 _ _ _ _ _ _ _ _)
      | (with_reducible exact ih5 _ _ _ _ _ _ _ _ _ _ _ _ _)
      | (with_reducible exact impl_CornersOf.mono _ _ _)
      | (with_reducible exact impl_InversePerm.mono _ _)
      | (with_reducible exact impl_IsTurn.mono _ _ _ _)
      | (with_reducible exact LeO.refl _)
      | (with_reducible exact LeO.none _)
      | (with_reducible refine LeO.ite ?_ ?_)
      | (with_reducible refine LeO.bind ?_ (fun _ => ?_))
      | exact ih0 _ _ _ _ _ _ _
      | exact ih1 _ _ _ _ _ _ _ _ _
      | exact ih2 _ _ _ _ _ _ _ _ _
      | exact ih3 _ _ _ _ _ _ _ _ _ _ _ _ _
      | exact ih4 _ _ _ _ _ _ _ _
      | exact ih5 _ _ _ _ _ _ _ _ _ _ _ _ _
      | exact impl_CornersOf.mono _ _ _
      | exact impl_InversePerm.mono _ _
      | exact impl_IsTurn.mono _ _ _ _
      | exact LeO.none _
      | refine LeO.ite ?_ ?_
      | refine LeO.bind ?_ (fun _ => ?_)
    · intro y0 y1 y2 y3 y4 y5 y6 y7 y8 y9 y10 y11 y12
      unfold impl_FixedPoints.l4
      repeat' first
      | (with_reducible exact ih0 _ _ _ _ _ _ _)
      | (with_reducible exact ih1 _ _ _ _ _ _ _ _ _)
      | (with_reducible exact ih2 _ _ _ _ _ _ _ _ _)
      | (with_reducible exact ih3 _ _ _ _ _ _ _ _ _ _ _ _ _)
      | (with_reducible exact ih4 _ _ _ _ _ _ _ _)
      | (with_reducible exact ih5 _ _ _ _ _ _ _ _ _ _ _ _ _)
      | (with_reducible exact impl_CornersOf.mono _ _ _)
      | (with_reducible exact impl_InversePerm.mono _ _)
      | (with_reducible exact impl_IsTurn.mono _ _ _ _)
      | (with_reducible exact LeO.refl _)
      | (with_reducible exact LeO.none _)
      | (with_reducible refine LeO.ite ?_ ?_)
      | (with_reducible refine LeO.bind ?_ (fun _ => ?_))
      | exact ih0 _ _ _ _ _ _ _
      | exact ih1 _ _ _ _ _ _ _ _ _
      | exact ih2 _ _ _ _ _ _ _ _ _
      | exact ih3 _ _ _ _ _ _ _ _ _ _ _ _ _
      | exact ih4 _ _ _ _ _ _ _ _
      | exact ih5 _ _ _ _ _ _ _ _ _ _ _ _ _
      | exact impl_CornersOf.mono _ _ _
      | exact impl_InversePerm.mono _ _
      | exact impl_IsTurn.mono _ _ _ _
      | exact LeO.none _
      | refine LeO.ite ?_ ?_
      | refine LeO.bind ?_ (fun _ => ?_)
theorem impl_FixedPoints.mono : ∀ a0 a1 a2 k, LeO (impl_FixedPoints.f k a0 a1 a2) (impl_FixedPoints.f (k + 1) a0 a1 a2) := by
  intro a0 a1 a2 k
  obtain ⟨ih0, ih1, ih2, ih3, ih4, ih5⟩ := impl_FixedPoints.mono_l k
  unfold impl_FixedPoints.f
  repeat' first
      | (with_reducible exact ih0 _ _ _ _ _ _ _)
      | (with_reducible exact ih1 _ _ _ _ _ _ _ _ _)
      | (with_reducible exact ih2 _ _ _ _ _ _ _ _ _)
      | (with_reducible exact ih3 _ _ _ _ _ _ _ _ _ _ _ _ _)
      | (with_reducible exact ih4 _ _ _ _ _ _ _ _)
      | (with_reducible exact ih5 _ _ _ _ _ _ _ _ _ _ _ _ _)
      | (with_reducible exact impl_CornersOf.mono _ _ _)
      | (with_reducible exact impl_InversePerm.mono _ _)
      | (with_reducible exact impl_IsTurn.mono _ _ _ _)
      | (with_reducible exact LeO.refl _)
      | (with_reducible exact LeO.none _)
      | (with_reducible refine LeO.ite ?_ ?_)
      | (with_reducible refine LeO.bind ?_ (fun _ => ?_))
      | exact ih0 _ _ _ _ _ _ _
      | exact ih1 _ _ _ _ _ _ _ _ _
      | exact ih2 _ _ _ _ _ _ _ _ _
      | exact ih3 _ _ _ _ _ _ _ _ _ _ _ _ _
      | exact ih4 _ _ _ _ _ _ _ _
      | exact ih5 _ _ _ _ _ _ _ _ _ _ _ _ _
      | exact impl_CornersOf.mono _ _ _
      | exact impl_InversePerm.mono _ _
      | exact impl_IsTurn.mono _ _ _ _
      | exact LeO.none _
      | refine LeO.ite ?_ ?_
      | refine LeO.bind ?_ (fun _ => ?_)
set_option maxHeartbeats 8000000 in
set_option maxRecDepth 100000 in
theorem impl_FixedPoints.calls (k : Nat) (A0_0 : Option Addr) (c0_0 : Nat) (l0_0 : List Int) (A0_1 : Option Addr) (c0_1 : Nat) (l0_1 : List Int) (A1 : Option Addr) (c1 : Nat) (l1 : List Int) (r1 : List Int) (r2 : Bool) (w : World) (hr0_0 : Kd.C (Kd.int .i64) w A0_0 l0_0.length l0_0) (hc0_0 : l0_0.length ≤ c0_0) (hr0_1 : Kd.C (Kd.int .i64) w A0_1 l0_1.length l0_1) (hc0_1 : l0_1.length ≤ c0_1) (hr1 : Kd.C (Kd.int .i64) w A1 l1.length l1) (hc1 : l1.length ≤ c1) (h : impl_FixedPoints.f k l0_0 l0_1 l1 = some (r1, r2)) :
    Calls Try.prog 51 #[.agg #[.slice A0_0 l0_0.length c0_0, .slice A0_1 l0_1.length c0_1], .slice A1 l1.length c1] w fun e w' => ∃ v0_ : Value, e = .returned (.tuple #[v0_, .bool r2]) ∧ Kd.R (Kd.int .i64) 3 w' w.heap.size (fun _ => True) v0_ r1 ∧ Below w.heap.size w w' := by
  have hu34 := Try.underlying34
  have HR0_0 := Aside0.mk hr0_0
  have HC0_0 := Aside0.mk hc0_0
  clear hr0_0 hc0_0
  have HR0_1 := Aside0.mk hr0_1
  have HC0_1 := Aside0.mk hc0_1
  clear hr0_1 hc0_1
  have HR1 := Aside0.mk hr1
  have HC1 := Aside0.mk hc1
  clear hr1 hc1
  have HB := Aside0.mk (Below.refl w.heap.size w)
  have H : ((impl_IsTurn.f k l0_0 l0_1 l1).bind fun t909 => (if t909 = true then (if 4 ≤ 35184372088832 then (impl_FixedPoints.l0 k l1 (List.replicate 4 0) l1 (l1.length : Int) 0 l0_0 l0_1) else (none)) else (some (([] : List Int), false)))) = some (r1, r2) := h
  clear h
  replace H := Option.bind_eq_some_iff.mp H
  obtain ⟨t909, A30, H⟩ := H
  replace H : (if t909 = true then (if 4 ≤ 35184372088832 then (impl_FixedPoints.l0 k l1 (List.replicate 4 0) l1 (l1.length : Int) 0 l0_0 l0_1) else (none)) else (some (([] : List Int), false))) = some (r1, r2) := H
  have A3 := Aside0.mk A30
  clear A30
  by_cases c4 : t909 = true
  · subst c4
    have H1 : (if 4 ≤ 35184372088832 then (impl_FixedPoints.l0 k l1 (List.replicate 4 0) l1 (l1.length : Int) 0 l0_0 l0_1) else (none)) = some (r1, r2) := by rw [if_pos rfl] at H; exact H
    clear H
    have H := H1
    clear H1
    by_cases c5 : 4 ≤ 35184372088832
    · rw [if_pos c5] at H
      have c5b0 := eq_true c5
      have c5b1 : decide (4 ≤ 35184372088832) = true := decide_eq_true c5
      clear c5
      obtain ⟨y910, hy910⟩ : ∃ y_ : List Int, y_ = (List.replicate 4 0) := ⟨_, rfl⟩
      replace H : (impl_FixedPoints.l0 k l1 y910 l1 (l1.length : Int) 0 l0_0 l0_1) = some (r1, r2) := by first | (rw [hy910]; with_reducible exact H) | (have H2_ := (Option.bind_some _ _).symm.trans H; rw [hy910]; with_reducible exact H2_) | (have H2_ := (Option.bind_some _ _).symm.trans H; with_reducible exact H2_) | with_reducible exact H | (rw [hy910]; exact H) | exact H
      have Ny910 := Aside0.mk hy910
      clear hy910
      have H' := Aside0.mk H
      clear H
      go_enter Try.func51, Try.ntmps51
      go_wp2_with (first | ((with_reducible refine gate_dst (N := 2) rfl ?_); refine box_event ?hg (N := 2) ?hd (cs := #[.slice A0_0 l0_0.length c0_0, .slice A0_1 l0_1.length c0_1]) (t := 34) ?hr ?_; (case hd => rfl); (case hg => rfl); (case hr => first | (go_simp; done) | (go_simp; rfl)); intro gb908 hg w6 hbox hb; have n0_ := Aside0.mk (below_step (by repeat (first | (with_reducible first | exact HB.out | apply below_alloc | apply pw_below_drewN | apply below_drew1) | exact HB.out)) hb); have n1_ := Aside0.mk (hbox); have n2_ := Aside0.mk ((by rw [hg]; exact (below_size (by repeat (first | (with_reducible first | exact HB.out | apply below_alloc | apply pw_below_drewN | apply below_drew1) | exact HB.out))) : w.heap.size ≤ gb908)); have n3_ := Aside0.mk ((by rw [hg]; exact (below_size (by repeat (first | (with_reducible first | exact HB.out | apply below_alloc | apply pw_below_drewN | apply below_drew1) | exact HB.out))) : w.heap.size ≤ gb908)); clear HB; have HB := n0_; have BK908 := n1_; have GW908 := n2_; have GE908 := n3_; clear n0_ n1_ n2_ n3_; clear hb hbox hg; have hcz7_0 : w6.cell? ⟨gb908, 0, none⟩ = some (.slice A0_0 l0_0.length c0_0) := (blk_cell BK908.out 0).trans rfl; have hcz7_1 : w6.cell? ⟨gb908, 1, none⟩ = some (.slice A0_1 l0_1.length c0_1) := (blk_cell BK908.out 1).trans rfl; have hfz7_0 := blk_frozen BK908.out 0; have hfz7_1 := blk_frozen BK908.out 1) | ((with_reducible refine gate_callee (f := 24) rfl ?_); refine goesL_ (some 24) rfl rfl Try.func24 (by kernel_rfl) rfl #[.agg #[.slice A0_0 l0_0.length c0_0, .slice A0_1 l0_1.length c0_1], .slice A1 l1.length c1] rfl (by (try simp only [List.map_toArray, List.map_cons, List.map_nil]); first | done | rfl | (simp only [List.length_drop, List.length_take]; rfl)) ?_; (with_reducible refine (impl_IsTurn.calls k _ _ l0_0 _ _ l0_1 _ _ l1 true _ ?side1 ?side2 ?side3 ?side4 ?side5 ?side6 A3.out).mono ?_); (case side1 => repeat (first | exact (Kd.C_below HR0_0.out HB.out) | (with_reducible refine Kd.C_alloc ?_ _) | (with_reducible refine Kd.C_drewN ?_ _) | (with_reducible refine Kd.C_drew ?_))); (case side2 => exact HC0_0.out); (case side3 => repeat (first | exact (Kd.C_below HR0_1.out HB.out) | (with_reducible refine Kd.C_alloc ?_ _) | (with_reducible refine Kd.C_drewN ?_ _) | (with_reducible refine Kd.C_drew ?_))); (case side4 => exact HC0_1.out); (case side5 => repeat (first | exact (Kd.C_below HR1.out HB.out) | (with_reducible refine Kd.C_alloc ?_ _) | (with_reducible refine Kd.C_drewN ?_ _) | (with_reducible refine Kd.C_drew ?_))); (case side6 => exact HC1.out); rintro e w8 ⟨rfl, hb⟩; refine ⟨_, rfl, ?_⟩; have n0_ := Aside0.mk (blk_below (g := gb908) (o := .cells #[.slice A0_0 l0_0.length c0_0, .slice A0_1 l0_1.length c0_1] 34 (0, 0)) (by (with_reducible repeat (first | refine blk_drewN ?_ _ | refine blk_drew ?_ | refine blk_alloc ?_ _)); exact BK908.out) hb); have n1_ := Aside0.mk (below_step (by repeat (first | (with_reducible first | exact HB.out | apply below_alloc | apply pw_below_drewN | apply below_drew1 | refine below_set ?_ GE908.out) | exact HB.out)) hb); clear BK908; clear HB; have BK908 := n0_; have HB := n1_; clear n0_ n1_; (try clear hb); (try clear hb2); (try clear hk); (try clear hi)) | ((with_reducible refine gate_dst (N := 26) rfl ?_); refine Kd.R_make (Kd.int .i64) _ 3 rfl (N := 26) rfl 29 _ _ rfl 4 rfl rfl Try.underlying29 (.int .i64 0) 8 info3 rfl (by decide) (by omega) 0 (ok := fun _ => True) (okp := fun _ => True) rfl (fun _ hk => hk) trivial (by omega) (by omega) (Below.refl _ _) (Nat.le_refl _) ?_; intro v911 w9 ho10 hb hg_ hnew_; clear hg_ hnew_; (first | rw [← Ny910.out] at ho10 | (simp only [Int.reduceToNat] at ho10; rw [← Ny910.out] at ho10)); have n0_ := Aside0.mk (Kd.R_lower ho10 (below_size (by repeat (first | (with_reducible first | exact HB.out | apply below_alloc | apply pw_below_drewN | apply below_drew1 | refine below_set ?_ GE908.out) | exact HB.out)))); have n1_ := Aside0.mk (blk_below (g := gb908) (o := .cells #[.slice A0_0 l0_0.length c0_0, .slice A0_1 l0_1.length c0_1] 34 (0, 0)) (by (with_reducible repeat (first | refine blk_drewN ?_ _ | refine blk_drew ?_ | refine blk_alloc ?_ _)); exact BK908.out) hb); have n2_ := Aside0.mk (below_step (by repeat (first | (with_reducible first | exact HB.out | apply below_alloc | apply pw_below_drewN | apply below_drew1 | refine below_set ?_ GE908.out) | exact HB.out)) hb); clear BK908; clear HB; have HO912 := n0_; have BK908 := n1_; have HB := n2_; clear n0_ n1_ n2_; clear hb ho10))
      go_loopg [29] k (fun kq v29 w' => ∃ (x6_1 : List Int) (x29_1 : Int), v29 = .int .i64 x29_1 ∧ Aside0 (impl_FixedPoints.l0 kq l1 x6_1 l1 (l1.length : Int) x29_1 l0_0 l0_1 = some (r1, r2)) ∧ Aside0 (kq ≤ k) ∧ Aside0 (Kd.R (Kd.int .i64) 3 w' w.heap.size (fun _ => True) v911 x6_1) ∧ Aside0 (w'.heap[gb908]? = some (.cells #[(.slice A0_0 l0_0.length c0_0), (.slice A0_1 l0_1.length c0_1)] 34 (0, 0))) ∧ Aside0 (Below w.heap.size w w'))
      case atStart => exact ⟨(y910), (0), (by first | rfl | (simp; done) | (simp [*]; done)), H', ⟨Nat.le_refl _⟩, ⟨by (with_reducible repeat (first | apply Kd.R_alloc | apply Kd.R_drewN | apply Kd.R_drew)); exact HO912.out⟩, ⟨by (with_reducible repeat (first | refine blk_drewN ?_ _ | refine blk_drew ?_ | refine blk_alloc ?_ _)); exact BK908.out⟩, ⟨by repeat (first | (with_reducible first | exact HB.out | apply below_alloc | apply pw_below_drewN | apply below_drew1 | refine below_set ?_ GE908.out) | exact HB.out)⟩⟩
      case round =>
        clear H'
        try clear c1
        try clear c2
        try clear p2
        try clear c4
        try clear c5
        try clear c5b0
        try clear c5b1
        try clear hcz7_0
        try clear hcz7_1
        try clear hfz7_0
        try clear hfz7_1
        obtain ⟨x6_1, x29_1, rfl, HA, HK1, HO_6, BK908, HB⟩ := hrel
        cases gk with
        | zero => exact absurd HA.out (by simp [impl_FixedPoints.l0])
        | succ k1 =>
          have H := HA.out
          clear HA
          simp only [impl_FixedPoints.l0] at H
          by_cases c11 : x29_1 < (l1.length : Int)
          · rw [if_pos c11] at H
            have c11b0 : decide (x29_1 < (l1.length : Int)) = true := decide_eq_true c11
            clear c11
            by_cases c12 : 0 ≤ x29_1
            · rw [if_pos c12] at H
              have c12b0 : decide (0 ≤ x29_1) = true := decide_eq_true c12
              clear c12
              by_cases c13 : x29_1 < (l1.length : Int)
              · rw [if_pos c13] at H
                have c13b0 : decide (x29_1 < (l1.length : Int)) = true := decide_eq_true c13
                clear c13
                have HC14 := Aside0.mk H
                clear H
                have p913 : 0 ≤ (x29_1 : Int) := of_decide_eq_true (by first | (with_reducible assumption) | assumption)
                have q913 : x29_1 < (l1.length : Int) := of_decide_eq_true (by first | (with_reducible assumption) | assumption)
                obtain ⟨ad913, e913, hx913_0⟩ := Kd.at_int HR1.out x29_1 p913 q913
                cases e913
                (try replace hx913_0 := (HB.out.cell (World.block_lt_of_cell? w _ hx913_0)).trans hx913_0)
                replace p913 := eq_true p913
                replace q913 := eq_true q913
                go_upto_if 36 with (fail)
                go_cut [] (fun wc => ∃ (kq : Nat) (x6_13 : List Int), Aside0 (impl_FixedPoints.j1 kq l1 x6_13 x29_1 (rd l1 x29_1) l1 (l1.length : Int) x29_1 l0_0 l0_1 = some (r1, r2)) ∧ Aside0 (kq ≤ k1) ∧ Aside0 (Kd.R (Kd.int .i64) 3 wc w.heap.size (fun _ => True) v911 x6_13) ∧ Aside0 (wc.heap[gb908]? = some (.cells #[(.slice A0_0 l0_0.length c0_0), (.slice A0_1 l0_1.length c0_1)] 34 (0, 0))) ∧ Aside0 (Below w.heap.size w wc))
                case first =>
                  have H := HC14.out
                  clear HC14
                  by_cases c15 : (rd l1 x29_1) = x29_1
                  · rw [if_pos c15] at H
                    have c15b0 : ((rd l1 x29_1) == x29_1) = true := beq_iff_eq.mpr c15
                    have c15b1 : ((rd l1 x29_1) != x29_1) = false := bne_eq_false_iff_eq.mpr c15
                    clear c15
                    (first | rw [c15b0] | (simp only [i64_w, i32_w]; rw [c15b0]) | skip)
                    by_cases c16 : 0 < (x6_1.length : Int)
                    · rw [if_pos c16] at H
                      have c16b0 : decide (0 < (x6_1.length : Int)) = true := decide_eq_true c16
                      have c16b1 : decide (0 < x6_1.length) = true := decide_eq_true (by omega)
                      clear c16
                      obtain ⟨y915, hy915⟩ : ∃ y_ : List Int, y_ = (x6_1.set (0 : Int).toNat (wrap64 ((rd x6_1 0) + 1))) := ⟨_, rfl⟩
                      replace H : (impl_FixedPoints.j1 k1 l1 y915 x29_1 (rd l1 x29_1) l1 (l1.length : Int) x29_1 l0_0 l0_1) = some (r1, r2) := by first | (rw [hy915]; with_reducible exact H) | (have H2_ := (Option.bind_some _ _).symm.trans H; rw [hy915]; with_reducible exact H2_) | (have H2_ := (Option.bind_some _ _).symm.trans H; with_reducible exact H2_) | with_reducible exact H | (rw [hy915]; exact H) | exact H
                      have Ny915 := Aside0.mk hy915
                      clear hy915
                      have H' := Aside0.mk H
                      clear H
                      obtain ⟨Ao18, co18, eo18⟩ := Kd.R_slice HO_6.out
                      subst eo18
                      have p914 : 0 ≤ (0 : Int) := (by omega)
                      have q914 : 0 < (x6_1.length : Int) := of_decide_eq_true (by first | (with_reducible assumption) | assumption)
                      obtain ⟨ad914, e914, hx914_0⟩ := Kd.at_int (Kd.R_reads' HO_6.out).2.2 0 p914 q914
                      cases e914
                      have qi914 : (0 < x6_1.length) = True := eq_true (by omega)
                      (try rw [show ((0 : Int)).toNat = 0 from rfl] at hx914_0)
                      (try rw [Addr.add_zero'] at hx914_0)
                      replace p914 := eq_true p914
                      replace q914 := eq_true q914
                      have p17 : 0 ≤ (0 : Int) := (by omega)
                      have q17 : (0 : Int) < ((x6_1.length : Int) : Int) := of_decide_eq_true (by first | (with_reducible assumption) | assumption)
                      have qi17 : (0 < x6_1.length) = True := eq_true (by omega)
                      obtain ⟨go17, co17, eo17, gb17, gl17, cl17, HG17⟩ := Kd.R_form HO_6.out (by omega)
                      (first | cases eo17 | (injection eo17 with ea_ en_ ec_; (first | subst ea_ | (injection ea_ with ea_; subst ea_)); subst ec_; clear en_))
                      have GB17 := Aside0.mk gb17
                      have GG17 := Aside0.mk HG17
                      clear gb17 gl17 HG17
                      (first | simp only [add_plain] at hx914_0 | skip)
                      obtain ⟨hx17_0, hf17_0⟩ := Kd.R_celln 0 HO_6.out (0 : Int) p17 q17
                      (try rw [show ((0 : Int)).toNat = 0 from rfl] at hx17_0)
                      (try simp only [Nat.reduceMul, Nat.zero_mul, Nat.zero_add, Nat.reduceAdd] at hx17_0)
                      (try rw [show ((0 : Int)).toNat = 0 from rfl] at hf17_0)
                      (try simp only [Nat.reduceMul, Nat.zero_mul, Nat.zero_add, Nat.reduceAdd] at hf17_0)
                      replace p17 := eq_true p17
                      replace q17 := eq_true q17
                      have HP19 := Kd.R_putg HO_6.out (0 : Int) (wrap64 ((rd x6_1 0) + 1))
                      go_wp2_with (first | ((with_reducible refine gate_store (t := 3) (p := 41) rfl ?_); refine store_event (t := 3) (p := 41) (v := ?vo_w20) (w1 := (wr.setCell ⟨go17, (0 : Int).toNat, none⟩ (.int .i64 (wrap64 ((rd x6_1 0) + 1))))) ?hg ?ho ?hn ?hr ?_; (case ho => rfl); (case hg => rfl); (case hn => rfl); (case hr => first | (go_simp; done) | (go_simp; rfl)); intro w20 hw; have hg : wr.grownBy w20 (some go17) := (by rw [hw]; exact HP19.2); have hp_ : Kd.R (Kd.int .i64) 3 w20 w.heap.size (fun _ => True) (.slice (some ⟨go17, 0, none⟩) x6_1.length co18) y915 := (by rw [hw, Ny915.out]; exact HP19.1); clear HP19; have n0_ := Aside0.mk (hp_); have n1_ := Aside0.mk (blk_grown (g := gb908) (o := .cells #[.slice A0_0 l0_0.length c0_0, .slice A0_1 l0_1.length c0_1] 34 (0, 0)) (by (with_reducible repeat (first | refine blk_drewN ?_ _ | refine blk_drew ?_ | refine blk_alloc ?_ _)); exact BK908.out) hg (Kd.R_ne HO_6.out BK908.out (by decide))); have n2_ := Aside0.mk ((by rw [hw]; exact below_set (HB.out) GB17.out : Below w.heap.size w w20)); clear HO_6; clear BK908; clear HB; have HO_6 := n0_; have BK908 := n1_; have HB := n2_; clear n0_ n1_ n2_; clear hg hw hp_))
                      go_meet
                      case rel => exact ⟨_, (y915), H', ⟨by have := HK1.out; first | omega | exact Nat.le_refl _⟩, ⟨by (with_reducible repeat (first | apply Kd.R_alloc | apply Kd.R_drewN | apply Kd.R_drew)); exact HO_6.out⟩, ⟨by (with_reducible repeat (first | refine blk_drewN ?_ _ | refine blk_drew ?_ | refine blk_alloc ?_ _)); exact BK908.out⟩, ⟨by repeat (first | (with_reducible first | exact HB.out | apply below_alloc | apply pw_below_drewN | apply below_drew1 | refine below_set ?_ GE908.out) | exact HB.out)⟩⟩
                    · rw [if_neg c16] at H
                      exact absurd H (by simp)
                  · rw [if_neg c15] at H
                    have c15b0 : ((rd l1 x29_1) == x29_1) = false := beq_eq_false_iff_ne.mpr c15
                    have c15b1 : ((rd l1 x29_1) != x29_1) = true := bne_iff_ne.mpr c15
                    (first | rw [c15b0] | (simp only [i64_w, i32_w]; rw [c15b0]) | skip)
                    have H' := Aside0.mk H
                    clear H
                    go_wp2
                    go_meet
                    case rel => exact ⟨_, (x6_1), H', ⟨by have := HK1.out; first | omega | exact Nat.le_refl _⟩, ⟨by (with_reducible repeat (first | apply Kd.R_alloc | apply Kd.R_drewN | apply Kd.R_drew)); exact HO_6.out⟩, ⟨by (with_reducible repeat (first | refine blk_drewN ?_ _ | refine blk_drew ?_ | refine blk_alloc ?_ _)); exact BK908.out⟩, ⟨by repeat (first | (with_reducible first | exact HB.out | apply below_alloc | apply pw_below_drewN | apply below_drew1 | refine below_set ?_ GE908.out) | exact HB.out)⟩⟩
                case rest =>
                  clear HC14
                  try clear c1
                  try clear p1
                  try clear q1
                  try clear hx1
                  try clear qi1
                  try clear c2
                  try clear p2
                  try clear c4
                  try clear c5
                  try clear c5b0
                  try clear c5b1
                  try clear p6
                  try clear p9
                  try clear q9
                  try clear hx9
                  try clear qi9
                  try clear c11
                  try clear c11b0
                  try clear c12
                  try clear c12b0
                  try clear c13
                  try clear c13b0
                  try clear c15
                  try clear c15b0
                  try clear c15b1
                  try clear c16
                  try clear c16b0
                  try clear c16b1
                  try clear p17
                  try clear q17
                  try clear hx17
                  try clear qi17
                  try clear hf17
                  try clear hcz7_0
                  try clear hcz7_1
                  try clear hfz7_0
                  try clear hfz7_1
                  try clear hx17_0
                  try clear hx913_0
                  try clear hx914_0
                  try clear p17
                  try clear p2
                  try clear p913
                  try clear p914
                  try clear q17
                  try clear q913
                  try clear q914
                  obtain ⟨kq, x6_13, HA, HJ13, HO_6, BK908, HB⟩ := hcut
                  cases kq with
                  | zero => exact absurd HA.out (by simp [impl_FixedPoints.j1])
                  | succ kj13 =>
                    have H := HA.out
                    clear HA
                    simp only [impl_FixedPoints.j1] at H
                    by_cases c21 : 0 ≤ x29_1
                    · rw [if_pos c21] at H
                      have c21b0 : decide (0 ≤ x29_1) = true := decide_eq_true c21
                      clear c21
                      by_cases c22 : x29_1 < (l0_0.length : Int)
                      · rw [if_pos c22] at H
                        have c22b0 : decide (x29_1 < (l0_0.length : Int)) = true := decide_eq_true c22
                        clear c22
                        by_cases c23 : (rd l1 x29_1) = (rd l0_0 x29_1)
                        · rw [if_pos c23] at H
                          have c23b0 : ((rd l1 x29_1) == (rd l0_0 x29_1)) = true := beq_iff_eq.mpr c23
                          have c23b1 : ((rd l1 x29_1) != (rd l0_0 x29_1)) = false := bne_eq_false_iff_eq.mpr c23
                          clear c23
                          by_cases c24 : 1 < (x6_13.length : Int)
                          · rw [if_pos c24] at H
                            have c24b0 : decide (1 < (x6_13.length : Int)) = true := decide_eq_true c24
                            have c24b1 : decide (1 < x6_13.length) = true := decide_eq_true (by omega)
                            clear c24
                            obtain ⟨y918, hy918⟩ : ∃ y_ : List Int, y_ = (x6_13.set (1 : Int).toNat (wrap64 ((rd x6_13 1) + 1))) := ⟨_, rfl⟩
                            replace H : (if x29_1 < (l0_1.length : Int) then (if (rd l1 x29_1) = (rd l0_1 x29_1) then (if 2 < (x6_13.length : Int) then (impl_FixedPoints.l0 kj13 l1 (y918.set (2 : Int).toNat (wrap64 ((rd y918 2) + 1))) l1 (l1.length : Int) (wrap64 (x29_1 + 1)) l0_0 l0_1) else (none)) else (impl_FixedPoints.l0 kj13 l1 y918 l1 (l1.length : Int) (wrap64 (x29_1 + 1)) l0_0 l0_1)) else (none)) = some (r1, r2) := by first | (rw [hy918]; with_reducible exact H) | (have H2_ := (Option.bind_some _ _).symm.trans H; rw [hy918]; with_reducible exact H2_) | (have H2_ := (Option.bind_some _ _).symm.trans H; with_reducible exact H2_) | with_reducible exact H | (rw [hy918]; exact H) | exact H
                            have Ny918 := Aside0.mk hy918
                            clear hy918
                            by_cases c26 : x29_1 < (l0_1.length : Int)
                            · rw [if_pos c26] at H
                              have c26b0 : decide (x29_1 < (l0_1.length : Int)) = true := decide_eq_true c26
                              clear c26
                              by_cases c27 : (rd l1 x29_1) = (rd l0_1 x29_1)
                              · rw [if_pos c27] at H
                                have c27b0 : ((rd l1 x29_1) == (rd l0_1 x29_1)) = true := beq_iff_eq.mpr c27
                                have c27b1 : ((rd l1 x29_1) != (rd l0_1 x29_1)) = false := bne_eq_false_iff_eq.mpr c27
                                clear c27
                                by_cases c28 : 2 < (x6_13.length : Int)
                                · rw [if_pos c28] at H
                                  have c28b0 : decide (2 < (x6_13.length : Int)) = true := decide_eq_true c28
                                  have c28b1 : decide (2 < x6_13.length) = true := decide_eq_true (by omega)
                                  clear c28
                                  obtain ⟨y921, hy921⟩ : ∃ y_ : List Int, y_ = (y918.set (2 : Int).toNat (wrap64 ((rd y918 2) + 1))) := ⟨_, rfl⟩
                                  replace H : (impl_FixedPoints.l0 kj13 l1 y921 l1 (l1.length : Int) (wrap64 (x29_1 + 1)) l0_0 l0_1) = some (r1, r2) := by first | (rw [hy921]; with_reducible exact H) | (have H2_ := (Option.bind_some _ _).symm.trans H; rw [hy921]; with_reducible exact H2_) | (have H2_ := (Option.bind_some _ _).symm.trans H; with_reducible exact H2_) | with_reducible exact H | (rw [hy921]; exact H) | exact H
                                  have Ny921 := Aside0.mk hy921
                                  clear hy921
                                  have H' := Aside0.mk H
                                  clear H
                                  have hcz30_0 : wc.cell? ⟨gb908, 0, none⟩ = some (.slice A0_0 l0_0.length c0_0) := (blk_cell BK908.out 0).trans rfl
                                  have hcz30_1 : wc.cell? ⟨gb908, 1, none⟩ = some (.slice A0_1 l0_1.length c0_1) := (blk_cell BK908.out 1).trans rfl
                                  have hfz30_0 := blk_frozen BK908.out 0
                                  have hfz30_1 := blk_frozen BK908.out 1
                                  have p916 : 0 ≤ (x29_1 : Int) := of_decide_eq_true (by first | (with_reducible assumption) | assumption)
                                  have q916 : x29_1 < (l0_0.length : Int) := of_decide_eq_true (by first | (with_reducible assumption) | assumption)
                                  obtain ⟨ad916, e916, hx916_0⟩ := Kd.at_int HR0_0.out x29_1 p916 q916
                                  cases e916
                                  (try replace hx916_0 := (HB.out.cell (World.block_lt_of_cell? w _ hx916_0)).trans hx916_0)
                                  replace p916 := eq_true p916
                                  replace q916 := eq_true q916
                                  obtain ⟨Ao31, co31, eo31⟩ := Kd.R_slice HO_6.out
                                  subst eo31
                                  have p917 : 0 ≤ (1 : Int) := (by omega)
                                  have q917 : 1 < (x6_13.length : Int) := of_decide_eq_true (by first | (with_reducible assumption) | assumption)
                                  obtain ⟨ad917, e917, hx917_0⟩ := Kd.at_int (Kd.R_reads' HO_6.out).2.2 1 p917 q917
                                  cases e917
                                  (try simp only [show (1 : Int).toNat = 1 from rfl, Nat.reduceMul, Nat.reduceEqDiff, Go.Addr.add, ↓reduceIte] at hx917_0)
                                  have qi917 : (1 < x6_13.length) = True := eq_true (by omega)
                                  (try rw [show ((1 : Int)).toNat = 1 from rfl] at hx917_0)
                                  replace p917 := eq_true p917
                                  replace q917 := eq_true q917
                                  have p25 : 0 ≤ (1 : Int) := (by omega)
                                  have q25 : (1 : Int) < ((x6_13.length : Int) : Int) := of_decide_eq_true (by first | (with_reducible assumption) | assumption)
                                  have qi25 : (1 < x6_13.length) = True := eq_true (by omega)
                                  obtain ⟨go25, co25, eo25, gb25, gl25, cl25, HG25⟩ := Kd.R_form HO_6.out (by omega)
                                  (first | cases eo25 | (injection eo25 with ea_ en_ ec_; (first | subst ea_ | (injection ea_ with ea_; subst ea_)); subst ec_; clear en_))
                                  have GB25 := Aside0.mk gb25
                                  have GG25 := Aside0.mk HG25
                                  clear gb25 gl25 HG25
                                  (first | simp only [add_plain] at hx917_0 | skip)
                                  obtain ⟨hx25_0, hf25_0⟩ := Kd.R_celln 0 HO_6.out (1 : Int) p25 q25
                                  (try rw [show ((1 : Int)).toNat = 1 from rfl] at hx25_0)
                                  (try simp only [Nat.reduceMul, Nat.zero_mul, Nat.zero_add, Nat.reduceAdd] at hx25_0)
                                  (try rw [show ((1 : Int)).toNat = 1 from rfl] at hf25_0)
                                  (try simp only [Nat.reduceMul, Nat.zero_mul, Nat.zero_add, Nat.reduceAdd] at hf25_0)
                                  replace p25 := eq_true p25
                                  replace q25 := eq_true q25
                                  have HP32 := Kd.R_putg HO_6.out (1 : Int) (wrap64 ((rd x6_13 1) + 1))
                                  go_wp2_with (first | ((with_reducible refine gate_store (t := 3) (p := 53) rfl ?_); refine store_event (t := 3) (p := 53) (v := ?vo_w33) (w1 := (wc.setCell ⟨go25, (1 : Int).toNat, none⟩ (.int .i64 (wrap64 ((rd x6_13 1) + 1))))) ?hg ?ho ?hn ?hr ?_; (case ho => rfl); (case hg => rfl); (case hn => rfl); (case hr => first | (go_simp; done) | (go_simp; rfl)); intro w33 hw; have hg : wc.grownBy w33 (some go25) := (by rw [hw]; exact HP32.2); have hp_ : Kd.R (Kd.int .i64) 3 w33 w.heap.size (fun _ => True) (.slice (some ⟨go25, 0, none⟩) x6_13.length co31) y918 := (by rw [hw, Ny918.out]; exact HP32.1); clear HP32; have n0_ := Aside0.mk (hp_); have n1_ := Aside0.mk (blk_grown (g := gb908) (o := .cells #[.slice (some ad916) l0_0.length c0_0, .slice A0_1 l0_1.length c0_1] 34 (0, 0)) (by (with_reducible repeat (first | refine blk_drewN ?_ _ | refine blk_drew ?_ | refine blk_alloc ?_ _)); exact BK908.out) hg (Kd.R_ne HO_6.out BK908.out (by decide))); have n2_ := Aside0.mk ((by rw [hw]; exact below_set (HB.out) GB25.out : Below w.heap.size w w33)); clear HO_6; clear BK908; clear HB; have HO_6 := n0_; have BK908 := n1_; have HB := n2_; clear n0_ n1_ n2_; clear hg hw hp_; have hcz34_0 : w33.cell? ⟨gb908, 0, none⟩ = some (.slice (some ad916) l0_0.length c0_0) := (blk_cell BK908.out 0).trans rfl; have hcz34_1 : w33.cell? ⟨gb908, 1, none⟩ = some (.slice A0_1 l0_1.length c0_1) := (blk_cell BK908.out 1).trans rfl; have hfz34_0 := blk_frozen BK908.out 0; have hfz34_1 := blk_frozen BK908.out 1; have p919 : 0 ≤ (x29_1 : Int) := of_decide_eq_true (by first | (with_reducible assumption) | assumption); have q919 : x29_1 < (l0_1.length : Int) := of_decide_eq_true (by first | (with_reducible assumption) | assumption); obtain ⟨ad919, e919, hx919_0⟩ := Kd.at_int HR0_1.out x29_1 p919 q919; cases e919; replace hx919_0 := (HB.out.cell (World.block_lt_of_cell? w _ hx919_0)).trans hx919_0; replace p919 := eq_true p919; replace q919 := eq_true q919; have p920 : 0 ≤ (2 : Int) := (by omega); have q920 : 2 < (y918.length : Int) := (by have h_ : (2 : Int) < ((x6_13.length : Int) : Int) := of_decide_eq_true (by first | (with_reducible assumption) | assumption); first | (have e_ := (Kd.R_reads' HO_6.out).1; omega) | simpa only [Ny918.out, List.length_set] using h_); have ql920 : ((2 : Int) < ((x6_13.length : Int) : Int)) = True := eq_true (of_decide_eq_true (by first | (with_reducible assumption) | assumption)); (try have qn920 : (2 < x6_13.length) = True := eq_true (by have h_ : (2 : Int) < ((x6_13.length : Int) : Int) := of_decide_eq_true (by first | (with_reducible assumption) | assumption); omega)); obtain ⟨ad920, e920, hx920_0⟩ := Kd.at_int (Kd.R_reads' HO_6.out).2.2 2 p920 q920; obtain rfl : (⟨go25, 0, none⟩ : Addr) = ad920 := (by injection e920); (first | simp only [add_plain] at hx920_0 | simp only [add_at] at hx920_0 | simp only [Addr.add, Nat.zero_add] at hx920_0 | skip); have qi920 : (2 < y918.length) = True := eq_true (by omega); (try rw [show ((2 : Int)).toNat = 2 from rfl] at hx920_0); replace p920 := eq_true p920; replace q920 := eq_true q920; have p29 : 0 ≤ (2 : Int) := (by omega); have q29 : (2 : Int) < ((x6_13.length : Int) : Int) := of_decide_eq_true (by first | (with_reducible assumption) | assumption); have qi29 : (2 < x6_13.length) = True := eq_true (by omega); obtain ⟨hx29_0, hf29_0⟩ := Kd.R_celln 0 HO_6.out (2 : Int) p29 q29; (try rw [show ((2 : Int)).toNat = 2 from rfl] at hx29_0); (try simp only [Nat.reduceMul, Nat.zero_mul, Nat.zero_add, Nat.reduceAdd] at hx29_0); (try rw [show ((2 : Int)).toNat = 2 from rfl] at hf29_0); (try simp only [Nat.reduceMul, Nat.zero_mul, Nat.zero_add, Nat.reduceAdd] at hf29_0); replace p29 := eq_true p29; replace q29 := eq_true q29; obtain ⟨hy35_, hz35_⟩ := Kd.R_celln 0 HO_6.out (2 : Int) (by omega) (of_decide_eq_true (by first | (with_reducible assumption) | assumption)); (try simp only [Int.reduceToNat, Int.toNat_zero, Int.toNat_ofNat, Nat.reduceMul, Nat.zero_mul, Nat.zero_add] at hy35_ hz35_); (try rw [show ((2 : Int)).toNat = 2 from rfl] at hy35_); (try rw [show ((2 : Int)).toNat = 2 from rfl] at hz35_); have HP35 := Kd.R_putg HO_6.out (2 : Int) (wrap64 ((rd y918 2) + 1))) | ((with_reducible refine gate_store (t := 3) (p := 65) rfl ?_); refine store_event (t := 3) (p := 65) (v := ?vo_w36) (w1 := (w33.setCell ⟨go25, (2 : Int).toNat, none⟩ (.int .i64 (wrap64 ((rd y918 2) + 1))))) ?hg ?ho ?hn ?hr ?_; (case ho => rfl); (case hg => rfl); (case hn => rfl); (case hr => first | (go_simp; done) | (go_simp; rfl)); intro w36 hw; have hg : w33.grownBy w36 (some go25) := (by rw [hw]; exact HP35.2); have hp_ : Kd.R (Kd.int .i64) 3 w36 w.heap.size (fun _ => True) (.slice (some ⟨go25, 0, none⟩) x6_13.length co31) y921 := (by rw [hw, Ny921.out]; exact HP35.1); clear HP35; have n0_ := Aside0.mk (hp_); have n1_ := Aside0.mk (blk_grown (g := gb908) (o := .cells #[.slice (some ad916) l0_0.length c0_0, .slice (some ad919) l0_1.length c0_1] 34 (0, 0)) (by (with_reducible repeat (first | refine blk_drewN ?_ _ | refine blk_drew ?_ | refine blk_alloc ?_ _)); exact BK908.out) hg (Kd.R_ne HO_6.out BK908.out (by decide))); have n2_ := Aside0.mk ((by rw [hw]; exact below_set (HB.out) GB25.out : Below w.heap.size w w36)); clear HO_6; clear BK908; clear HB; have HO_6 := n0_; have BK908 := n1_; have HB := n2_; clear n0_ n1_ n2_; clear hg hw hp_))
                                  go_roundg kj13
                                  case measure => have := HK1.out; have := HJ13.out; omega
                                  case rel => exact ⟨(y921), (wrap64 (x29_1 + 1)), (by first | rfl | (simp; done) | (simp [*]; done)), H', ⟨by have := HK1.out; have := HJ13.out; omega⟩, ⟨by (with_reducible repeat (first | apply Kd.R_alloc | apply Kd.R_drewN | apply Kd.R_drew)); exact HO_6.out⟩, ⟨by (with_reducible repeat (first | refine blk_drewN ?_ _ | refine blk_drew ?_ | refine blk_alloc ?_ _)); exact BK908.out⟩, ⟨by repeat (first | (with_reducible first | exact HB.out | apply below_alloc | apply pw_below_drewN | apply below_drew1 | refine below_set ?_ GE908.out) | exact HB.out)⟩⟩
                                · rw [if_neg c28] at H
                                  exact absurd H (by simp)
                              · rw [if_neg c27] at H
                                have c27b0 : ((rd l1 x29_1) == (rd l0_1 x29_1)) = false := beq_eq_false_iff_ne.mpr c27
                                have c27b1 : ((rd l1 x29_1) != (rd l0_1 x29_1)) = true := bne_iff_ne.mpr c27
                                have H' := Aside0.mk H
                                clear H
                                have hcz37_0 : wc.cell? ⟨gb908, 0, none⟩ = some (.slice A0_0 l0_0.length c0_0) := (blk_cell BK908.out 0).trans rfl
                                have hcz37_1 : wc.cell? ⟨gb908, 1, none⟩ = some (.slice A0_1 l0_1.length c0_1) := (blk_cell BK908.out 1).trans rfl
                                have hfz37_0 := blk_frozen BK908.out 0
                                have hfz37_1 := blk_frozen BK908.out 1
                                have p916 : 0 ≤ (x29_1 : Int) := of_decide_eq_true (by first | (with_reducible assumption) | assumption)
                                have q916 : x29_1 < (l0_0.length : Int) := of_decide_eq_true (by first | (with_reducible assumption) | assumption)
                                obtain ⟨ad916, e916, hx916_0⟩ := Kd.at_int HR0_0.out x29_1 p916 q916
                                cases e916
                                (try replace hx916_0 := (HB.out.cell (World.block_lt_of_cell? w _ hx916_0)).trans hx916_0)
                                replace p916 := eq_true p916
                                replace q916 := eq_true q916
                                obtain ⟨Ao38, co38, eo38⟩ := Kd.R_slice HO_6.out
                                subst eo38
                                have p917 : 0 ≤ (1 : Int) := (by omega)
                                have q917 : 1 < (x6_13.length : Int) := of_decide_eq_true (by first | (with_reducible assumption) | assumption)
                                obtain ⟨ad917, e917, hx917_0⟩ := Kd.at_int (Kd.R_reads' HO_6.out).2.2 1 p917 q917
                                cases e917
                                (try simp only [show (1 : Int).toNat = 1 from rfl, Nat.reduceMul, Nat.reduceEqDiff, Go.Addr.add, ↓reduceIte] at hx917_0)
                                have qi917 : (1 < x6_13.length) = True := eq_true (by omega)
                                (try rw [show ((1 : Int)).toNat = 1 from rfl] at hx917_0)
                                replace p917 := eq_true p917
                                replace q917 := eq_true q917
                                have p25 : 0 ≤ (1 : Int) := (by omega)
                                have q25 : (1 : Int) < ((x6_13.length : Int) : Int) := of_decide_eq_true (by first | (with_reducible assumption) | assumption)
                                have qi25 : (1 < x6_13.length) = True := eq_true (by omega)
                                obtain ⟨go25, co25, eo25, gb25, gl25, cl25, HG25⟩ := Kd.R_form HO_6.out (by omega)
                                (first | cases eo25 | (injection eo25 with ea_ en_ ec_; (first | subst ea_ | (injection ea_ with ea_; subst ea_)); subst ec_; clear en_))
                                have GB25 := Aside0.mk gb25
                                have GG25 := Aside0.mk HG25
                                clear gb25 gl25 HG25
                                (first | simp only [add_plain] at hx917_0 | skip)
                                obtain ⟨hx25_0, hf25_0⟩ := Kd.R_celln 0 HO_6.out (1 : Int) p25 q25
                                (try rw [show ((1 : Int)).toNat = 1 from rfl] at hx25_0)
                                (try simp only [Nat.reduceMul, Nat.zero_mul, Nat.zero_add, Nat.reduceAdd] at hx25_0)
                                (try rw [show ((1 : Int)).toNat = 1 from rfl] at hf25_0)
                                (try simp only [Nat.reduceMul, Nat.zero_mul, Nat.zero_add, Nat.reduceAdd] at hf25_0)
                                replace p25 := eq_true p25
                                replace q25 := eq_true q25
                                have HP39 := Kd.R_putg HO_6.out (1 : Int) (wrap64 ((rd x6_13 1) + 1))
                                go_wp2_with (first | ((with_reducible refine gate_store (t := 3) (p := 53) rfl ?_); refine store_event (t := 3) (p := 53) (v := ?vo_w40) (w1 := (wc.setCell ⟨go25, (1 : Int).toNat, none⟩ (.int .i64 (wrap64 ((rd x6_13 1) + 1))))) ?hg ?ho ?hn ?hr ?_; (case ho => rfl); (case hg => rfl); (case hn => rfl); (case hr => first | (go_simp; done) | (go_simp; rfl)); intro w40 hw; have hg : wc.grownBy w40 (some go25) := (by rw [hw]; exact HP39.2); have hp_ : Kd.R (Kd.int .i64) 3 w40 w.heap.size (fun _ => True) (.slice (some ⟨go25, 0, none⟩) x6_13.length co38) y918 := (by rw [hw, Ny918.out]; exact HP39.1); clear HP39; have n0_ := Aside0.mk (hp_); have n1_ := Aside0.mk (blk_grown (g := gb908) (o := .cells #[.slice (some ad916) l0_0.length c0_0, .slice A0_1 l0_1.length c0_1] 34 (0, 0)) (by (with_reducible repeat (first | refine blk_drewN ?_ _ | refine blk_drew ?_ | refine blk_alloc ?_ _)); exact BK908.out) hg (Kd.R_ne HO_6.out BK908.out (by decide))); have n2_ := Aside0.mk ((by rw [hw]; exact below_set (HB.out) GB25.out : Below w.heap.size w w40)); clear HO_6; clear BK908; clear HB; have HO_6 := n0_; have BK908 := n1_; have HB := n2_; clear n0_ n1_ n2_; clear hg hw hp_; have hcz41_0 : w40.cell? ⟨gb908, 0, none⟩ = some (.slice (some ad916) l0_0.length c0_0) := (blk_cell BK908.out 0).trans rfl; have hcz41_1 : w40.cell? ⟨gb908, 1, none⟩ = some (.slice A0_1 l0_1.length c0_1) := (blk_cell BK908.out 1).trans rfl; have hfz41_0 := blk_frozen BK908.out 0; have hfz41_1 := blk_frozen BK908.out 1; have p919 : 0 ≤ (x29_1 : Int) := of_decide_eq_true (by first | (with_reducible assumption) | assumption); have q919 : x29_1 < (l0_1.length : Int) := of_decide_eq_true (by first | (with_reducible assumption) | assumption); obtain ⟨ad919, e919, hx919_0⟩ := Kd.at_int HR0_1.out x29_1 p919 q919; cases e919; replace hx919_0 := (HB.out.cell (World.block_lt_of_cell? w _ hx919_0)).trans hx919_0; replace p919 := eq_true p919; replace q919 := eq_true q919))
                                go_roundg kj13
                                case measure => have := HK1.out; have := HJ13.out; omega
                                case rel => exact ⟨(y918), (wrap64 (x29_1 + 1)), (by first | rfl | (simp; done) | (simp [*]; done)), H', ⟨by have := HK1.out; have := HJ13.out; omega⟩, ⟨by (with_reducible repeat (first | apply Kd.R_alloc | apply Kd.R_drewN | apply Kd.R_drew)); exact HO_6.out⟩, ⟨by (with_reducible repeat (first | refine blk_drewN ?_ _ | refine blk_drew ?_ | refine blk_alloc ?_ _)); exact BK908.out⟩, ⟨by repeat (first | (with_reducible first | exact HB.out | apply below_alloc | apply pw_below_drewN | apply below_drew1 | refine below_set ?_ GE908.out) | exact HB.out)⟩⟩
                            · rw [if_neg c26] at H
                              exact absurd H (by simp)
                          · rw [if_neg c24] at H
                            exact absurd H (by simp)
                        · rw [if_neg c23] at H
                          have c23b0 : ((rd l1 x29_1) == (rd l0_0 x29_1)) = false := beq_eq_false_iff_ne.mpr c23
                          have c23b1 : ((rd l1 x29_1) != (rd l0_0 x29_1)) = true := bne_iff_ne.mpr c23
                          by_cases c42 : x29_1 < (l0_1.length : Int)
                          · rw [if_pos c42] at H
                            have c42b0 : decide (x29_1 < (l0_1.length : Int)) = true := decide_eq_true c42
                            clear c42
                            by_cases c43 : (rd l1 x29_1) = (rd l0_1 x29_1)
                            · rw [if_pos c43] at H
                              have c43b0 : ((rd l1 x29_1) == (rd l0_1 x29_1)) = true := beq_iff_eq.mpr c43
                              have c43b1 : ((rd l1 x29_1) != (rd l0_1 x29_1)) = false := bne_eq_false_iff_eq.mpr c43
                              clear c43
                              by_cases c44 : 2 < (x6_13.length : Int)
                              · rw [if_pos c44] at H
                                have c44b0 : decide (2 < (x6_13.length : Int)) = true := decide_eq_true c44
                                have c44b1 : decide (2 < x6_13.length) = true := decide_eq_true (by omega)
                                clear c44
                                obtain ⟨y924, hy924⟩ : ∃ y_ : List Int, y_ = (x6_13.set (2 : Int).toNat (wrap64 ((rd x6_13 2) + 1))) := ⟨_, rfl⟩
                                replace H : (impl_FixedPoints.l0 kj13 l1 y924 l1 (l1.length : Int) (wrap64 (x29_1 + 1)) l0_0 l0_1) = some (r1, r2) := by first | (rw [hy924]; with_reducible exact H) | (have H2_ := (Option.bind_some _ _).symm.trans H; rw [hy924]; with_reducible exact H2_) | (have H2_ := (Option.bind_some _ _).symm.trans H; with_reducible exact H2_) | with_reducible exact H | (rw [hy924]; exact H) | exact H
                                have Ny924 := Aside0.mk hy924
                                clear hy924
                                have H' := Aside0.mk H
                                clear H
                                have hcz46_0 : wc.cell? ⟨gb908, 0, none⟩ = some (.slice A0_0 l0_0.length c0_0) := (blk_cell BK908.out 0).trans rfl
                                have hcz46_1 : wc.cell? ⟨gb908, 1, none⟩ = some (.slice A0_1 l0_1.length c0_1) := (blk_cell BK908.out 1).trans rfl
                                have hfz46_0 := blk_frozen BK908.out 0
                                have hfz46_1 := blk_frozen BK908.out 1
                                have p916 : 0 ≤ (x29_1 : Int) := of_decide_eq_true (by first | (with_reducible assumption) | assumption)
                                have q916 : x29_1 < (l0_0.length : Int) := of_decide_eq_true (by first | (with_reducible assumption) | assumption)
                                obtain ⟨ad916, e916, hx916_0⟩ := Kd.at_int HR0_0.out x29_1 p916 q916
                                cases e916
                                (try replace hx916_0 := (HB.out.cell (World.block_lt_of_cell? w _ hx916_0)).trans hx916_0)
                                replace p916 := eq_true p916
                                replace q916 := eq_true q916
                                have p922 : 0 ≤ (x29_1 : Int) := of_decide_eq_true (by first | (with_reducible assumption) | assumption)
                                have q922 : x29_1 < (l0_1.length : Int) := of_decide_eq_true (by first | (with_reducible assumption) | assumption)
                                obtain ⟨ad922, e922, hx922_0⟩ := Kd.at_int HR0_1.out x29_1 p922 q922
                                cases e922
                                (try replace hx922_0 := (HB.out.cell (World.block_lt_of_cell? w _ hx922_0)).trans hx922_0)
                                replace p922 := eq_true p922
                                replace q922 := eq_true q922
                                obtain ⟨Ao47, co47, eo47⟩ := Kd.R_slice HO_6.out
                                subst eo47
                                have p923 : 0 ≤ (2 : Int) := (by omega)
                                have q923 : 2 < (x6_13.length : Int) := of_decide_eq_true (by first | (with_reducible assumption) | assumption)
                                obtain ⟨ad923, e923, hx923_0⟩ := Kd.at_int (Kd.R_reads' HO_6.out).2.2 2 p923 q923
                                cases e923
                                (try simp only [show (2 : Int).toNat = 2 from rfl, Nat.reduceMul, Nat.reduceEqDiff, Go.Addr.add, ↓reduceIte] at hx923_0)
                                have qi923 : (2 < x6_13.length) = True := eq_true (by omega)
                                (try rw [show ((2 : Int)).toNat = 2 from rfl] at hx923_0)
                                replace p923 := eq_true p923
                                replace q923 := eq_true q923
                                have p45 : 0 ≤ (2 : Int) := (by omega)
                                have q45 : (2 : Int) < ((x6_13.length : Int) : Int) := of_decide_eq_true (by first | (with_reducible assumption) | assumption)
                                have qi45 : (2 < x6_13.length) = True := eq_true (by omega)
                                obtain ⟨go45, co45, eo45, gb45, gl45, cl45, HG45⟩ := Kd.R_form HO_6.out (by omega)
                                (first | cases eo45 | (injection eo45 with ea_ en_ ec_; (first | subst ea_ | (injection ea_ with ea_; subst ea_)); subst ec_; clear en_))
                                have GB45 := Aside0.mk gb45
                                have GG45 := Aside0.mk HG45
                                clear gb45 gl45 HG45
                                (first | simp only [add_plain] at hx923_0 | skip)
                                obtain ⟨hx45_0, hf45_0⟩ := Kd.R_celln 0 HO_6.out (2 : Int) p45 q45
                                (try rw [show ((2 : Int)).toNat = 2 from rfl] at hx45_0)
                                (try simp only [Nat.reduceMul, Nat.zero_mul, Nat.zero_add, Nat.reduceAdd] at hx45_0)
                                (try rw [show ((2 : Int)).toNat = 2 from rfl] at hf45_0)
                                (try simp only [Nat.reduceMul, Nat.zero_mul, Nat.zero_add, Nat.reduceAdd] at hf45_0)
                                replace p45 := eq_true p45
                                replace q45 := eq_true q45
                                have HP48 := Kd.R_putg HO_6.out (2 : Int) (wrap64 ((rd x6_13 2) + 1))
                                go_wp2_with (first | ((with_reducible refine gate_store (t := 3) (p := 65) rfl ?_); refine store_event (t := 3) (p := 65) (v := ?vo_w49) (w1 := (wc.setCell ⟨go45, (2 : Int).toNat, none⟩ (.int .i64 (wrap64 ((rd x6_13 2) + 1))))) ?hg ?ho ?hn ?hr ?_; (case ho => rfl); (case hg => rfl); (case hn => rfl); (case hr => first | (go_simp; done) | (go_simp; rfl)); intro w49 hw; have hg : wc.grownBy w49 (some go45) := (by rw [hw]; exact HP48.2); have hp_ : Kd.R (Kd.int .i64) 3 w49 w.heap.size (fun _ => True) (.slice (some ⟨go45, 0, none⟩) x6_13.length co47) y924 := (by rw [hw, Ny924.out]; exact HP48.1); clear HP48; have n0_ := Aside0.mk (hp_); have n1_ := Aside0.mk (blk_grown (g := gb908) (o := .cells #[.slice (some ad916) l0_0.length c0_0, .slice (some ad922) l0_1.length c0_1] 34 (0, 0)) (by (with_reducible repeat (first | refine blk_drewN ?_ _ | refine blk_drew ?_ | refine blk_alloc ?_ _)); exact BK908.out) hg (Kd.R_ne HO_6.out BK908.out (by decide))); have n2_ := Aside0.mk ((by rw [hw]; exact below_set (HB.out) GB45.out : Below w.heap.size w w49)); clear HO_6; clear BK908; clear HB; have HO_6 := n0_; have BK908 := n1_; have HB := n2_; clear n0_ n1_ n2_; clear hg hw hp_))
                                go_roundg kj13
                                case measure => have := HK1.out; have := HJ13.out; omega
                                case rel => exact ⟨(y924), (wrap64 (x29_1 + 1)), (by first | rfl | (simp; done) | (simp [*]; done)), H', ⟨by have := HK1.out; have := HJ13.out; omega⟩, ⟨by (with_reducible repeat (first | apply Kd.R_alloc | apply Kd.R_drewN | apply Kd.R_drew)); exact HO_6.out⟩, ⟨by (with_reducible repeat (first | refine blk_drewN ?_ _ | refine blk_drew ?_ | refine blk_alloc ?_ _)); exact BK908.out⟩, ⟨by repeat (first | (with_reducible first | exact HB.out | apply below_alloc | apply pw_below_drewN | apply below_drew1 | refine below_set ?_ GE908.out) | exact HB.out)⟩⟩
                              · rw [if_neg c44] at H
                                exact absurd H (by simp)
                            · rw [if_neg c43] at H
                              have c43b0 : ((rd l1 x29_1) == (rd l0_1 x29_1)) = false := beq_eq_false_iff_ne.mpr c43
                              have c43b1 : ((rd l1 x29_1) != (rd l0_1 x29_1)) = true := bne_iff_ne.mpr c43
                              have H' := Aside0.mk H
                              clear H
                              have hcz50_0 : wc.cell? ⟨gb908, 0, none⟩ = some (.slice A0_0 l0_0.length c0_0) := (blk_cell BK908.out 0).trans rfl
                              have hcz50_1 : wc.cell? ⟨gb908, 1, none⟩ = some (.slice A0_1 l0_1.length c0_1) := (blk_cell BK908.out 1).trans rfl
                              have hfz50_0 := blk_frozen BK908.out 0
                              have hfz50_1 := blk_frozen BK908.out 1
                              have p916 : 0 ≤ (x29_1 : Int) := of_decide_eq_true (by first | (with_reducible assumption) | assumption)
                              have q916 : x29_1 < (l0_0.length : Int) := of_decide_eq_true (by first | (with_reducible assumption) | assumption)
                              obtain ⟨ad916, e916, hx916_0⟩ := Kd.at_int HR0_0.out x29_1 p916 q916
                              cases e916
                              (try replace hx916_0 := (HB.out.cell (World.block_lt_of_cell? w _ hx916_0)).trans hx916_0)
                              replace p916 := eq_true p916
                              replace q916 := eq_true q916
                              have p922 : 0 ≤ (x29_1 : Int) := of_decide_eq_true (by first | (with_reducible assumption) | assumption)
                              have q922 : x29_1 < (l0_1.length : Int) := of_decide_eq_true (by first | (with_reducible assumption) | assumption)
                              obtain ⟨ad922, e922, hx922_0⟩ := Kd.at_int HR0_1.out x29_1 p922 q922
                              cases e922
                              (try replace hx922_0 := (HB.out.cell (World.block_lt_of_cell? w _ hx922_0)).trans hx922_0)
                              replace p922 := eq_true p922
                              replace q922 := eq_true q922
                              go_wp2
                              go_roundg kj13
                              case measure => have := HK1.out; have := HJ13.out; omega
                              case rel => exact ⟨(x6_13), (wrap64 (x29_1 + 1)), (by first | rfl | (simp; done) | (simp [*]; done)), H', ⟨by have := HK1.out; have := HJ13.out; omega⟩, ⟨by (with_reducible repeat (first | apply Kd.R_alloc | apply Kd.R_drewN | apply Kd.R_drew)); exact HO_6.out⟩, ⟨by (with_reducible repeat (first | refine blk_drewN ?_ _ | refine blk_drew ?_ | refine blk_alloc ?_ _)); exact BK908.out⟩, ⟨by repeat (first | (with_reducible first | exact HB.out | apply below_alloc | apply pw_below_drewN | apply below_drew1 | refine below_set ?_ GE908.out) | exact HB.out)⟩⟩
                          · rw [if_neg c42] at H
                            exact absurd H (by simp)
                      · rw [if_neg c22] at H
                        exact absurd H (by simp)
                    · rw [if_neg c21] at H
                      exact absurd H (by simp)
              · rw [if_neg c13] at H
                exact absurd H (by simp)
            · rw [if_neg c12] at H
              exact absurd H (by simp)
          · rw [if_neg c11] at H
            have c11b0 : decide (x29_1 < (l1.length : Int)) = false := decide_eq_false c11
            clear c11
            replace H := Option.bind_eq_some_iff.mp H
            obtain ⟨t925, A510, H⟩ := H
            replace H : ((impl_InversePerm.f k1 l0_1).bind fun t928 => (if 0 ≤ (l1.length : Int) then (if ((l1.length : Int) : Int).toNat ≤ 35184372088832 then ((impl_CornersOf.f k1 l0_0 l0_1).bind fun t934 => (impl_FixedPoints.l1 k1 l1 x6_1 t925 t928 (List.replicate ((l1.length : Int) : Int).toNat 0) t934 t934 (t934.length : Int) 0)) else (none)) else (none))) = some (r1, r2) := H
            have A51 := Aside0.mk A510
            clear A510
            replace H := Option.bind_eq_some_iff.mp H
            obtain ⟨t928, A520, H⟩ := H
            replace H : (if 0 ≤ (l1.length : Int) then (if ((l1.length : Int) : Int).toNat ≤ 35184372088832 then ((impl_CornersOf.f k1 l0_0 l0_1).bind fun t934 => (impl_FixedPoints.l1 k1 l1 x6_1 t925 t928 (List.replicate ((l1.length : Int) : Int).toNat 0) t934 t934 (t934.length : Int) 0)) else (none)) else (none)) = some (r1, r2) := H
            have A52 := Aside0.mk A520
            clear A520
            by_cases c53 : 0 ≤ (l1.length : Int)
            · rw [if_pos c53] at H
              have c53b0 := eq_true c53
              have c53b1 : decide (0 ≤ (l1.length : Int)) = true := decide_eq_true c53
              clear c53
              by_cases c54 : ((l1.length : Int) : Int).toNat ≤ 35184372088832
              · rw [if_pos c54] at H
                have c54b0 := eq_true c54
                have c54b1 : decide (((l1.length : Int) : Int).toNat ≤ 35184372088832) = true := decide_eq_true c54
                clear c54
                obtain ⟨y931, hy931⟩ : ∃ y_ : List Int, y_ = (List.replicate ((l1.length : Int) : Int).toNat 0) := ⟨_, rfl⟩
                replace H : ((impl_CornersOf.f k1 l0_0 l0_1).bind fun t934 => (impl_FixedPoints.l1 k1 l1 x6_1 t925 t928 y931 t934 t934 (t934.length : Int) 0)) = some (r1, r2) := by first | (rw [hy931]; with_reducible exact H) | (have H2_ := (Option.bind_some _ _).symm.trans H; rw [hy931]; with_reducible exact H2_) | (have H2_ := (Option.bind_some _ _).symm.trans H; with_reducible exact H2_) | with_reducible exact H | (rw [hy931]; exact H) | exact H
                have Ny931 := Aside0.mk hy931
                clear hy931
                replace H := Option.bind_eq_some_iff.mp H
                obtain ⟨t934, A550, H⟩ := H
                replace H : (impl_FixedPoints.l1 k1 l1 x6_1 t925 t928 y931 t934 t934 (t934.length : Int) 0) = some (r1, r2) := H
                have A55 := Aside0.mk A550
                clear A550
                have H' := Aside0.mk H
                clear H
                have hcz56_0 : wr.cell? ⟨gb908, 0, none⟩ = some (.slice A0_0 l0_0.length c0_0) := (blk_cell BK908.out 0).trans rfl
                have hcz56_1 : wr.cell? ⟨gb908, 1, none⟩ = some (.slice A0_1 l0_1.length c0_1) := (blk_cell BK908.out 1).trans rfl
                have hfz56_0 := blk_frozen BK908.out 0
                have hfz56_1 := blk_frozen BK908.out 1
                go_wp2_with (first | ((with_reducible refine gate_callee (f := 63) rfl ?_); refine goesL_ (some 69) rfl rfl Try.func63 (by kernel_rfl) rfl #[.slice A0_0 l0_0.length c0_0] rfl (by (try simp only [List.map_toArray, List.map_cons, List.map_nil]); first | done | rfl | (simp only [List.length_drop, List.length_take]; rfl)) ?_; (with_reducible refine (impl_InversePerm.calls k1 _ _ l0_0 t925 _ ?side1 ?side2 A51.out).mono ?_); (case side1 => repeat (first | exact (Kd.C_below HR0_0.out HB.out) | (with_reducible refine Kd.C_alloc ?_ _) | (with_reducible refine Kd.C_drewN ?_ _) | (with_reducible refine Kd.C_drew ?_))); (case side2 => exact HC0_0.out); rintro e w57 ⟨v926, rfl, ho0, hb⟩; refine ⟨_, rfl, ?_⟩; have n0_ := Aside0.mk (Kd.R_elder' (by (with_reducible repeat (first | apply Kd.R_alloc | apply Kd.R_drewN | apply Kd.R_drew)); exact HO_6.out) (Kd.R_base ho0) hb); have n1_ := Aside0.mk (Kd.R_lower (Kd.R_new' ho0 (Kd.R_lt (by (with_reducible repeat (first | apply Kd.R_alloc | apply Kd.R_drewN | apply Kd.R_drew)); exact HO_6.out))) (below_size (by repeat (first | (with_reducible first | exact HB.out | apply below_alloc | apply pw_below_drewN | apply below_drew1 | refine below_set ?_ GE908.out) | exact HB.out)))); have n2_ := Aside0.mk (blk_below (g := gb908) (o := .cells #[.slice A0_0 l0_0.length c0_0, .slice A0_1 l0_1.length c0_1] 34 (0, 0)) (by (with_reducible repeat (first | refine blk_drewN ?_ _ | refine blk_drew ?_ | refine blk_alloc ?_ _)); exact BK908.out) hb); have n3_ := Aside0.mk (below_step (by repeat (first | (with_reducible first | exact HB.out | apply below_alloc | apply pw_below_drewN | apply below_drew1 | refine below_set ?_ GE908.out) | exact HB.out)) hb); clear HO_6; clear BK908; clear HB; have HO_6 := n0_; have HO927 := n1_; have BK908 := n2_; have HB := n3_; clear n0_ n1_ n2_ n3_; (try clear hb); (try clear hb2); (try clear hk); (try clear hi); (try clear ho0); have hcz58_0 : w57.cell? ⟨gb908, 0, none⟩ = some (.slice A0_0 l0_0.length c0_0) := (blk_cell BK908.out 0).trans rfl; have hcz58_1 : w57.cell? ⟨gb908, 1, none⟩ = some (.slice A0_1 l0_1.length c0_1) := (blk_cell BK908.out 1).trans rfl; have hfz58_0 := blk_frozen BK908.out 0; have hfz58_1 := blk_frozen BK908.out 1) | ((with_reducible refine gate_callee (f := 63) rfl ?_); refine goesL_ (some 72) rfl rfl Try.func63 (by kernel_rfl) rfl #[.slice A0_1 l0_1.length c0_1] rfl (by (try simp only [List.map_toArray, List.map_cons, List.map_nil]); first | done | rfl | (simp only [List.length_drop, List.length_take]; rfl)) ?_; (with_reducible refine (impl_InversePerm.calls k1 _ _ l0_1 t928 _ ?side1 ?side2 A52.out).mono ?_); (case side1 => repeat (first | exact (Kd.C_below HR0_1.out HB.out) | (with_reducible refine Kd.C_alloc ?_ _) | (with_reducible refine Kd.C_drewN ?_ _) | (with_reducible refine Kd.C_drew ?_))); (case side2 => exact HC0_1.out); rintro e w59 ⟨v929, rfl, ho0, hb⟩; refine ⟨_, rfl, ?_⟩; have n0_ := Aside0.mk (Kd.R_elder' (by (with_reducible repeat (first | apply Kd.R_alloc | apply Kd.R_drewN | apply Kd.R_drew)); exact HO_6.out) (Kd.R_base ho0) hb); have n1_ := Aside0.mk (Kd.R_elder' (by (with_reducible repeat (first | apply Kd.R_alloc | apply Kd.R_drewN | apply Kd.R_drew)); exact HO927.out) (Kd.R_base ho0) hb); have n2_ := Aside0.mk (Kd.R_lower (Kd.R_new' (Kd.R_new' ho0 (Kd.R_lt (by (with_reducible repeat (first | apply Kd.R_alloc | apply Kd.R_drewN | apply Kd.R_drew)); exact HO_6.out))) (Kd.R_lt (by (with_reducible repeat (first | apply Kd.R_alloc | apply Kd.R_drewN | apply Kd.R_drew)); exact HO927.out))) (below_size (by repeat (first | (with_reducible first | exact HB.out | apply below_alloc | apply pw_below_drewN | apply below_drew1 | refine below_set ?_ GE908.out) | exact HB.out)))); have n3_ := Aside0.mk (blk_below (g := gb908) (o := .cells #[.slice A0_0 l0_0.length c0_0, .slice A0_1 l0_1.length c0_1] 34 (0, 0)) (by (with_reducible repeat (first | refine blk_drewN ?_ _ | refine blk_drew ?_ | refine blk_alloc ?_ _)); exact BK908.out) hb); have n4_ := Aside0.mk (below_step (by repeat (first | (with_reducible first | exact HB.out | apply below_alloc | apply pw_below_drewN | apply below_drew1 | refine below_set ?_ GE908.out) | exact HB.out)) hb); clear HO_6; clear HO927; clear BK908; clear HB; have HO_6 := n0_; have HO927 := n1_; have HO930 := n2_; have BK908 := n3_; have HB := n4_; clear n0_ n1_ n2_ n3_ n4_; (try clear hb); (try clear hb2); (try clear hk); (try clear hi); (try clear ho0)) | ((with_reducible refine gate_dst (N := 75) rfl ?_); refine Kd.R_make (Kd.int .i64) _ 3 rfl (N := 75) rfl 29 _ _ rfl (l1.length : Int) rfl rfl Try.underlying29 (.int .i64 0) 8 info3 rfl (by decide) (by omega) 0 (ok := fun _ => True) (okp := fun _ => True) rfl (fun _ hk => hk) trivial (of_decide_eq_true (by first | (with_reducible assumption) | assumption)) (Nat.le_trans (Nat.mul_le_mul_right _ (of_decide_eq_true (by first | (with_reducible assumption) | assumption) : (l1.length : Int).toNat ≤ 35184372088832)) (by omega)) (Below.refl _ _) (Nat.le_refl _) ?_; intro v932 w60 ho61 hb hg_ hnew_; clear hg_ hnew_; (first | rw [← Ny931.out] at ho61 | (simp only [Int.reduceToNat] at ho61; rw [← Ny931.out] at ho61)); have n0_ := Aside0.mk (Kd.R_elder' (by (with_reducible repeat (first | apply Kd.R_alloc | apply Kd.R_drewN | apply Kd.R_drew)); exact HO_6.out) (Kd.R_base ho61) hb); have n1_ := Aside0.mk (Kd.R_elder' (by (with_reducible repeat (first | apply Kd.R_alloc | apply Kd.R_drewN | apply Kd.R_drew)); exact HO927.out) (Kd.R_base ho61) hb); have n2_ := Aside0.mk (Kd.R_elder' (by (with_reducible repeat (first | apply Kd.R_alloc | apply Kd.R_drewN | apply Kd.R_drew)); exact HO930.out) (Kd.R_base ho61) hb); have n3_ := Aside0.mk (Kd.R_lower (Kd.R_new' (Kd.R_new' (Kd.R_new' ho61 (Kd.R_lt (by (with_reducible repeat (first | apply Kd.R_alloc | apply Kd.R_drewN | apply Kd.R_drew)); exact HO_6.out))) (Kd.R_lt (by (with_reducible repeat (first | apply Kd.R_alloc | apply Kd.R_drewN | apply Kd.R_drew)); exact HO927.out))) (Kd.R_lt (by (with_reducible repeat (first | apply Kd.R_alloc | apply Kd.R_drewN | apply Kd.R_drew)); exact HO930.out))) (below_size (by repeat (first | (with_reducible first | exact HB.out | apply below_alloc | apply pw_below_drewN | apply below_drew1 | refine below_set ?_ GE908.out) | exact HB.out)))); have n4_ := Aside0.mk (blk_below (g := gb908) (o := .cells #[.slice A0_0 l0_0.length c0_0, .slice A0_1 l0_1.length c0_1] 34 (0, 0)) (by (with_reducible repeat (first | refine blk_drewN ?_ _ | refine blk_drew ?_ | refine blk_alloc ?_ _)); exact BK908.out) hb); have n5_ := Aside0.mk (below_step (by repeat (first | (with_reducible first | exact HB.out | apply below_alloc | apply pw_below_drewN | apply below_drew1 | refine below_set ?_ GE908.out) | exact HB.out)) hb); clear HO_6; clear HO927; clear HO930; clear BK908; clear HB; have HO_6 := n0_; have HO927 := n1_; have HO930 := n2_; have HO933 := n3_; have BK908 := n4_; have HB := n5_; clear n0_ n1_ n2_ n3_ n4_ n5_; clear hb ho61; have hcz62_0 : w60.cell? ⟨gb908, 0, none⟩ = some (.slice A0_0 l0_0.length c0_0) := (blk_cell BK908.out 0).trans rfl; have hcz62_1 : w60.cell? ⟨gb908, 1, none⟩ = some (.slice A0_1 l0_1.length c0_1) := (blk_cell BK908.out 1).trans rfl; have hfz62_0 := blk_frozen BK908.out 0; have hfz62_1 := blk_frozen BK908.out 1) | ((with_reducible refine gate_callee (f := 86) rfl ?_); refine goesL_ (some 77) rfl rfl Try.func86 (by kernel_rfl) rfl #[.agg #[.slice A0_0 l0_0.length c0_0, .slice A0_1 l0_1.length c0_1]] rfl (by (try simp only [List.map_toArray, List.map_cons, List.map_nil]); first | done | rfl | (simp only [List.length_drop, List.length_take]; rfl)) ?_; (with_reducible refine (impl_CornersOf.calls k1 _ _ l0_0 _ _ l0_1 t934 _ ?side1 ?side2 ?side3 ?side4 A55.out).mono ?_); (case side1 => repeat (first | exact (Kd.C_below HR0_0.out HB.out) | (with_reducible refine Kd.C_alloc ?_ _) | (with_reducible refine Kd.C_drewN ?_ _) | (with_reducible refine Kd.C_drew ?_))); (case side2 => exact HC0_0.out); (case side3 => repeat (first | exact (Kd.C_below HR0_1.out HB.out) | (with_reducible refine Kd.C_alloc ?_ _) | (with_reducible refine Kd.C_drewN ?_ _) | (with_reducible refine Kd.C_drew ?_))); (case side4 => exact HC0_1.out); rintro e w63 ⟨v935, rfl, ho0, hb⟩; refine ⟨_, rfl, ?_⟩; have n0_ := Aside0.mk (Kd.R_below (by (with_reducible repeat (first | apply Kd.R_alloc | apply Kd.R_drewN | apply Kd.R_drew)); exact HO_6.out) hb); have n1_ := Aside0.mk (Kd.R_below (by (with_reducible repeat (first | apply Kd.R_alloc | apply Kd.R_drewN | apply Kd.R_drew)); exact HO927.out) hb); have n2_ := Aside0.mk (Kd.R_below (by (with_reducible repeat (first | apply Kd.R_alloc | apply Kd.R_drewN | apply Kd.R_drew)); exact HO930.out) hb); have n3_ := Aside0.mk (Kd.R_below (by (with_reducible repeat (first | apply Kd.R_alloc | apply Kd.R_drewN | apply Kd.R_drew)); exact HO933.out) hb); have n4_ := Aside0.mk (Kd.S_lower (Kd.S_new' (Kd.S_new' (Kd.S_new' (Kd.S_new' ho0 (Kd.R_lt (by (with_reducible repeat (first | apply Kd.R_alloc | apply Kd.R_drewN | apply Kd.R_drew)); exact HO_6.out))) (Kd.R_lt (by (with_reducible repeat (first | apply Kd.R_alloc | apply Kd.R_drewN | apply Kd.R_drew)); exact HO927.out))) (Kd.R_lt (by (with_reducible repeat (first | apply Kd.R_alloc | apply Kd.R_drewN | apply Kd.R_drew)); exact HO930.out))) (Kd.R_lt (by (with_reducible repeat (first | apply Kd.R_alloc | apply Kd.R_drewN | apply Kd.R_drew)); exact HO933.out))) (below_size (by repeat (first | (with_reducible first | exact HB.out | apply below_alloc | apply pw_below_drewN | apply below_drew1 | refine below_set ?_ GE908.out) | exact HB.out)))); have n5_ := Aside0.mk (blk_below (g := gb908) (o := .cells #[.slice A0_0 l0_0.length c0_0, .slice A0_1 l0_1.length c0_1] 34 (0, 0)) (by (with_reducible repeat (first | refine blk_drewN ?_ _ | refine blk_drew ?_ | refine blk_alloc ?_ _)); exact BK908.out) hb); have n6_ := Aside0.mk (below_step (by repeat (first | (with_reducible first | exact HB.out | apply below_alloc | apply pw_below_drewN | apply below_drew1 | refine below_set ?_ GE908.out) | exact HB.out)) hb); clear HO_6; clear HO927; clear HO930; clear HO933; clear BK908; clear HB; have HO_6 := n0_; have HO927 := n1_; have HO930 := n2_; have HO933 := n3_; have HO936 := n4_; have BK908 := n5_; have HB := n6_; clear n0_ n1_ n2_ n3_ n4_ n5_ n6_; (try clear hb); (try clear hb2); (try clear hk); (try clear hi); (try clear ho0); obtain ⟨Ao64, co64, eo64⟩ := Kd.S_slice HO936.out; subst eo64))
                go_loopg [80] k1 (fun kq v80 w' => ∃ (x11_2 : List Int) (x80_2 : Int), v80 = .int .i64 x80_2 ∧ Aside0 (impl_FixedPoints.l1 kq l1 x6_1 t925 t928 x11_2 t934 t934 (t934.length : Int) x80_2 = some (r1, r2)) ∧ Aside0 (kq ≤ k1) ∧ Aside0 (Kd.R (Kd.int .i64) 3 w' w.heap.size (fun k_ => some k_ ≠ (v926 : Value).ownBlock ∧ some k_ ≠ (v929 : Value).ownBlock ∧ some k_ ≠ (v932 : Value).ownBlock) v911 x6_1) ∧ Aside0 (Kd.R (Kd.int .i64) 3 w' w.heap.size (fun k_ => some k_ ≠ (v911 : Value).ownBlock ∧ some k_ ≠ (v929 : Value).ownBlock ∧ some k_ ≠ (v932 : Value).ownBlock) v926 t925) ∧ Aside0 (Kd.R (Kd.int .i64) 3 w' w.heap.size (fun k_ => some k_ ≠ (v911 : Value).ownBlock ∧ some k_ ≠ (v926 : Value).ownBlock ∧ some k_ ≠ (v932 : Value).ownBlock) v929 t928) ∧ Aside0 (Kd.R (Kd.int .i64) 3 w' w.heap.size (fun k_ => some k_ ≠ (v911 : Value).ownBlock ∧ some k_ ≠ (v926 : Value).ownBlock ∧ some k_ ≠ (v929 : Value).ownBlock) v932 x11_2) ∧ Aside0 (Kd.S (Kd.slice 3 (Kd.int .i64)) 29 w' w.heap.size (fun k_ => some k_ ≠ (v911 : Value).ownBlock ∧ some k_ ≠ (v926 : Value).ownBlock ∧ some k_ ≠ (v929 : Value).ownBlock ∧ some k_ ≠ (v932 : Value).ownBlock) (.slice Ao64 t934.length co64) t934) ∧ Aside0 (Kd.S (Kd.slice 3 (Kd.int .i64)) 29 w' w.heap.size (fun k_ => some k_ ≠ (v911 : Value).ownBlock ∧ some k_ ≠ (v926 : Value).ownBlock ∧ some k_ ≠ (v929 : Value).ownBlock ∧ some k_ ≠ (v932 : Value).ownBlock) (.slice Ao64 t934.length co64) t934) ∧ Aside0 (w'.heap[gb908]? = some (.cells #[(.slice A0_0 l0_0.length c0_0), (.slice A0_1 l0_1.length c0_1)] 34 (0, 0))) ∧ Aside0 (Below w.heap.size w w'))
                case atStart => exact ⟨(y931), (0), (by first | rfl | (simp; done) | (simp [*]; done)), H', ⟨Nat.le_refl _⟩, ⟨by (with_reducible repeat (first | apply Kd.R_alloc | apply Kd.R_drewN | apply Kd.R_drew)); exact Kd.R_mono HO_6.out (fun _ hk => ⟨hk.1.1.2, ⟨hk.1.2, hk.2⟩⟩)⟩, ⟨by (with_reducible repeat (first | apply Kd.R_alloc | apply Kd.R_drewN | apply Kd.R_drew)); exact Kd.R_mono HO927.out (fun _ hk => ⟨hk.1.1.2, ⟨hk.1.2, hk.2⟩⟩)⟩, ⟨by (with_reducible repeat (first | apply Kd.R_alloc | apply Kd.R_drewN | apply Kd.R_drew)); exact Kd.R_mono HO930.out (fun _ hk => ⟨hk.1.1.2, ⟨hk.1.2, hk.2⟩⟩)⟩, ⟨by (with_reducible repeat (first | apply Kd.R_alloc | apply Kd.R_drewN | apply Kd.R_drew)); exact Kd.R_mono HO933.out (fun _ hk => ⟨hk.1.1.2, ⟨hk.1.2, hk.2⟩⟩)⟩, ⟨by (with_reducible repeat (first | apply Kd.S_alloc | apply Kd.S_drewN | apply Kd.S_drew)); exact Kd.S_mono HO936.out (fun _ hk => ⟨hk.1.1.1.2, ⟨hk.1.1.2, ⟨hk.1.2, hk.2⟩⟩⟩)⟩, ⟨by (with_reducible repeat (first | apply Kd.S_alloc | apply Kd.S_drewN | apply Kd.S_drew)); exact Kd.S_mono HO936.out (fun _ hk => ⟨hk.1.1.1.2, ⟨hk.1.1.2, ⟨hk.1.2, hk.2⟩⟩⟩)⟩, ⟨by (with_reducible repeat (first | refine blk_drewN ?_ _ | refine blk_drew ?_ | refine blk_alloc ?_ _)); exact BK908.out⟩, ⟨by repeat (first | (with_reducible first | exact HB.out | apply below_alloc | apply pw_below_drewN | apply below_drew1 | refine below_set ?_ GE908.out) | exact HB.out)⟩⟩
                case round =>
                  clear H'
                  try clear c1
                  try clear p1
                  try clear q1
                  try clear hx1
                  try clear qi1
                  try clear c2
                  try clear p2
                  try clear q2
                  try clear hx2
                  try clear qi2
                  try clear hf2
                  try clear c4
                  try clear p4
                  try clear q4
                  try clear hx4
                  try clear qi4
                  try clear hf4
                  try clear c5
                  try clear c5b0
                  try clear c5b1
                  try clear c6
                  try clear p6
                  try clear c8
                  try clear p9
                  try clear q9
                  try clear hx9
                  try clear qi9
                  try clear c11
                  try clear c11b0
                  try clear c12
                  try clear c12b0
                  try clear c13
                  try clear c13b0
                  try clear c15
                  try clear c15b0
                  try clear c15b1
                  try clear c16
                  try clear c16b0
                  try clear c16b1
                  try clear p17
                  try clear q17
                  try clear hx17
                  try clear qi17
                  try clear hf17
                  try clear c21
                  try clear c21b0
                  try clear c22
                  try clear c22b0
                  try clear c23
                  try clear c23b0
                  try clear c23b1
                  try clear c24
                  try clear c24b0
                  try clear c24b1
                  try clear p25
                  try clear q25
                  try clear hx25
                  try clear qi25
                  try clear hf25
                  try clear c26
                  try clear c26b0
                  try clear c27
                  try clear c27b0
                  try clear c27b1
                  try clear c28
                  try clear c28b0
                  try clear c28b1
                  try clear p29
                  try clear q29
                  try clear hx29
                  try clear qi29
                  try clear hf29
                  try clear c42
                  try clear c42b0
                  try clear c43
                  try clear c43b0
                  try clear c43b1
                  try clear c44
                  try clear c44b0
                  try clear c44b1
                  try clear p45
                  try clear q45
                  try clear hx45
                  try clear qi45
                  try clear hf45
                  try clear c51
                  try clear c53
                  try clear c53b0
                  try clear c53b1
                  try clear c54
                  try clear c54b0
                  try clear c54b1
                  try clear c63
                  try clear p64
                  try clear hcz30_0
                  try clear hcz30_1
                  try clear hcz34_0
                  try clear hcz34_1
                  try clear hcz37_0
                  try clear hcz37_1
                  try clear hcz41_0
                  try clear hcz41_1
                  try clear hcz46_0
                  try clear hcz46_1
                  try clear hcz50_0
                  try clear hcz50_1
                  try clear hcz56_0
                  try clear hcz56_1
                  try clear hcz58_0
                  try clear hcz58_1
                  try clear hcz62_0
                  try clear hcz62_1
                  try clear hcz7_0
                  try clear hcz7_1
                  try clear hfz30_0
                  try clear hfz30_1
                  try clear hfz34_0
                  try clear hfz34_1
                  try clear hfz37_0
                  try clear hfz37_1
                  try clear hfz41_0
                  try clear hfz41_1
                  try clear hfz46_0
                  try clear hfz46_1
                  try clear hfz50_0
                  try clear hfz50_1
                  try clear hfz56_0
                  try clear hfz56_1
                  try clear hfz58_0
                  try clear hfz58_1
                  try clear hfz62_0
                  try clear hfz62_1
                  try clear hfz7_0
                  try clear hfz7_1
                  try clear hx17_0
                  try clear hx25_0
                  try clear hx29_0
                  try clear hx45_0
                  try clear hx913_0
                  try clear hx914_0
                  try clear hx916_0
                  try clear hx917_0
                  try clear hx919_0
                  try clear hx920_0
                  try clear hx922_0
                  try clear hx923_0
                  try clear p1
                  try clear p17
                  try clear p2
                  try clear p25
                  try clear p29
                  try clear p45
                  try clear p6
                  try clear p9
                  try clear p913
                  try clear p914
                  try clear p916
                  try clear p917
                  try clear p919
                  try clear p920
                  try clear p922
                  try clear p923
                  try clear q1
                  try clear q17
                  try clear q25
                  try clear q29
                  try clear q45
                  try clear q9
                  try clear q913
                  try clear q914
                  try clear q916
                  try clear q917
                  try clear q919
                  try clear q920
                  try clear q922
                  try clear q923
                  obtain ⟨x11_2, x80_2, rfl, HA, HK2, HO_6, HO_9, HO_10, HO_11, HO_12, HO_78, BK908, HB⟩ := hrel
                  cases gk with
                  | zero => exact absurd HA.out (by simp [impl_FixedPoints.l1])
                  | succ k2 =>
                    have H := HA.out
                    clear HA
                    simp only [impl_FixedPoints.l1] at H
                    by_cases c65 : x80_2 < (t934.length : Int)
                    · rw [if_pos c65] at H
                      have c65b0 : decide (x80_2 < (t934.length : Int)) = true := decide_eq_true c65
                      clear c65
                      by_cases c66 : 0 ≤ x80_2
                      · rw [if_pos c66] at H
                        have c66b0 : decide (0 ≤ x80_2) = true := decide_eq_true c66
                        clear c66
                        by_cases c67 : x80_2 < (t934.length : Int)
                        · rw [if_pos c67] at H
                          have c67b0 : decide (x80_2 < (t934.length : Int)) = true := decide_eq_true c67
                          clear c67
                          have H' := Aside0.mk H
                          clear H
                          have p937 : 0 ≤ (x80_2 : Int) := of_decide_eq_true (by first | (with_reducible assumption) | assumption)
                          have q937 : x80_2 < (t934.length : Int) := of_decide_eq_true (by first | (with_reducible assumption) | assumption)
                          obtain ⟨ad937, A937_0, c937_0, e937, hx937_0, hl937_0, hi937_0⟩ := at_L3 (Kd.S_reads' HO_78.out).2.2 x80_2 p937 q937
                          cases e937
                          obtain ⟨ce937, hce937, hMe937, hcc937⟩ := Kd.S_get HO_78.out [] x80_2 p937 (by first | exact q937 | exact of_decide_eq_true (by first | (with_reducible assumption) | assumption) | (have e_ := (Kd.S_reads' HO_78.out).1; omega))
                          obtain ⟨ve937_0, rfl, ge937_0⟩ := hMe937
                          have hv937_0 := hcc937 0 _ rfl
                          rw [Nat.add_zero, show ((Kd.slice 3 (Kd.int .i64))).sz = 1 from rfl, Nat.mul_one] at hv937_0
                          replace hv937_0 := Option.some.inj (hv937_0.symm.trans hx937_0)
                          rw [hv937_0] at ge937_0
                          have HL937_0 := Aside0.mk (show Kd.R (Kd.int .i64) 3 _ _ _ _ (rd_L3 t934 x80_2) from ge937_0)
                          clear hv937_0 ge937_0
                          clear hcc937 hce937
                          have HR937_0 := Aside0.mk hi937_0
                          have HC937_0 := Aside0.mk hl937_0
                          clear hi937_0 hl937_0
                          replace p937 := eq_true p937
                          replace q937 := eq_true q937
                          go_wp2
                          go_loopg [87] k2 (fun kq v87 w' => ∃ (x11_3 : List Int) (x87_3 : Int), v87 = .int .i64 x87_3 ∧ Aside0 (impl_FixedPoints.l2 kq l1 x6_1 t925 t928 x11_3 t934 x80_2 t934 (t934.length : Int) x80_2 (rd_L3 t934 x80_2) ((rd_L3 t934 x80_2).length : Int) x87_3 = some (r1, r2)) ∧ Aside0 (kq ≤ k2) ∧ Aside0 (Kd.R (Kd.int .i64) 3 w' w.heap.size (fun k_ => some k_ ≠ (v926 : Value).ownBlock ∧ some k_ ≠ (v929 : Value).ownBlock ∧ some k_ ≠ (v932 : Value).ownBlock) v911 x6_1) ∧ Aside0 (Kd.R (Kd.int .i64) 3 w' w.heap.size (fun k_ => some k_ ≠ (v911 : Value).ownBlock ∧ some k_ ≠ (v929 : Value).ownBlock ∧ some k_ ≠ (v932 : Value).ownBlock) v926 t925) ∧ Aside0 (Kd.R (Kd.int .i64) 3 w' w.heap.size (fun k_ => some k_ ≠ (v911 : Value).ownBlock ∧ some k_ ≠ (v926 : Value).ownBlock ∧ some k_ ≠ (v932 : Value).ownBlock) v929 t928) ∧ Aside0 (Kd.R (Kd.int .i64) 3 w' w.heap.size (fun k_ => some k_ ≠ (v911 : Value).ownBlock ∧ some k_ ≠ (v926 : Value).ownBlock ∧ some k_ ≠ (v929 : Value).ownBlock) v932 x11_3) ∧ Aside0 (Kd.S (Kd.slice 3 (Kd.int .i64)) 29 w' w.heap.size (fun k_ => some k_ ≠ (v911 : Value).ownBlock ∧ some k_ ≠ (v926 : Value).ownBlock ∧ some k_ ≠ (v929 : Value).ownBlock ∧ some k_ ≠ (v932 : Value).ownBlock) (.slice (some ad937) t934.length co64) t934) ∧ Aside0 (Kd.S (Kd.slice 3 (Kd.int .i64)) 29 w' w.heap.size (fun k_ => some k_ ≠ (v911 : Value).ownBlock ∧ some k_ ≠ (v926 : Value).ownBlock ∧ some k_ ≠ (v929 : Value).ownBlock ∧ some k_ ≠ (v932 : Value).ownBlock) (.slice (some ad937) t934.length co64) t934) ∧ Aside0 (w'.heap[gb908]? = some (.cells #[(.slice A0_0 l0_0.length c0_0), (.slice A0_1 l0_1.length c0_1)] 34 (0, 0))) ∧ Aside0 (Kd.R (Kd.int .i64) 3 w' w.heap.size (fun k_ => some k_ ≠ (v932 : Value).ownBlock) (.slice A937_0 (rd_L3 t934 x80_2).length c937_0) (rd_L3 t934 x80_2)) ∧ Aside0 (Below w.heap.size w w'))
                          case atStart => exact ⟨(x11_2), (0), (by first | rfl | (simp; done) | (simp [*]; done)), H', ⟨Nat.le_refl _⟩, ⟨by (with_reducible repeat (first | apply Kd.R_alloc | apply Kd.R_drewN | apply Kd.R_drew)); exact HO_6.out⟩, ⟨by (with_reducible repeat (first | apply Kd.R_alloc | apply Kd.R_drewN | apply Kd.R_drew)); exact HO_9.out⟩, ⟨by (with_reducible repeat (first | apply Kd.R_alloc | apply Kd.R_drewN | apply Kd.R_drew)); exact HO_10.out⟩, ⟨by (with_reducible repeat (first | apply Kd.R_alloc | apply Kd.R_drewN | apply Kd.R_drew)); exact HO_11.out⟩, ⟨by (with_reducible repeat (first | apply Kd.S_alloc | apply Kd.S_drewN | apply Kd.S_drew)); exact HO_12.out⟩, ⟨by (with_reducible repeat (first | apply Kd.S_alloc | apply Kd.S_drewN | apply Kd.S_drew)); exact HO_78.out⟩, ⟨by (with_reducible repeat (first | refine blk_drewN ?_ _ | refine blk_drew ?_ | refine blk_alloc ?_ _)); exact BK908.out⟩, ⟨by (with_reducible repeat (first | apply Kd.R_alloc | apply Kd.R_drewN | apply Kd.R_drew)); exact Kd.R_mono HL937_0.out (fun _ hk => hk.1.2.2.2)⟩, ⟨by repeat (first | (with_reducible first | exact HB.out | apply below_alloc | apply pw_below_drewN | apply below_drew1 | refine below_set ?_ GE908.out) | exact HB.out)⟩⟩
                          case round =>
                            clear H'
                            try clear c1
                            try clear p1
                            try clear q1
                            try clear hx1
                            try clear qi1
                            try clear c2
                            try clear p2
                            try clear q2
                            try clear hx2
                            try clear qi2
                            try clear hf2
                            try clear c4
                            try clear p4
                            try clear q4
                            try clear hx4
                            try clear qi4
                            try clear hf4
                            try clear c5
                            try clear c5b0
                            try clear c5b1
                            try clear c6
                            try clear p6
                            try clear c8
                            try clear c9
                            try clear p9
                            try clear q9
                            try clear hx9
                            try clear qi9
                            try clear c11
                            try clear c11b0
                            try clear c12
                            try clear c12b0
                            try clear c13
                            try clear c13b0
                            try clear c15
                            try clear c15b0
                            try clear c15b1
                            try clear c16
                            try clear c16b0
                            try clear c16b1
                            try clear p17
                            try clear q17
                            try clear hx17
                            try clear qi17
                            try clear hf17
                            try clear c21
                            try clear c21b0
                            try clear c22
                            try clear c22b0
                            try clear c23
                            try clear c23b0
                            try clear c23b1
                            try clear c24
                            try clear c24b0
                            try clear c24b1
                            try clear p25
                            try clear q25
                            try clear hx25
                            try clear qi25
                            try clear hf25
                            try clear c26
                            try clear c26b0
                            try clear c27
                            try clear c27b0
                            try clear c27b1
                            try clear c28
                            try clear c28b0
                            try clear c28b1
                            try clear p29
                            try clear q29
                            try clear hx29
                            try clear qi29
                            try clear hf29
                            try clear c42
                            try clear c42b0
                            try clear c43
                            try clear c43b0
                            try clear c43b1
                            try clear c44
                            try clear c44b0
                            try clear c44b1
                            try clear p45
                            try clear q45
                            try clear hx45
                            try clear qi45
                            try clear hf45
                            try clear c51
                            try clear c53
                            try clear c53b0
                            try clear c53b1
                            try clear c54
                            try clear c54b0
                            try clear c54b1
                            try clear c63
                            try clear p64
                            try clear c65
                            try clear c65b0
                            try clear c66
                            try clear c66b0
                            try clear c67
                            try clear c67b0
                            try clear hcz30_0
                            try clear hcz30_1
                            try clear hcz34_0
                            try clear hcz34_1
                            try clear hcz37_0
                            try clear hcz37_1
                            try clear hcz41_0
                            try clear hcz41_1
                            try clear hcz46_0
                            try clear hcz46_1
                            try clear hcz50_0
                            try clear hcz50_1
                            try clear hcz56_0
                            try clear hcz56_1
                            try clear hcz58_0
                            try clear hcz58_1
                            try clear hcz62_0
                            try clear hcz62_1
                            try clear hcz7_0
                            try clear hcz7_1
                            try clear hfz30_0
                            try clear hfz30_1
                            try clear hfz34_0
                            try clear hfz34_1
                            try clear hfz37_0
                            try clear hfz37_1
                            try clear hfz41_0
                            try clear hfz41_1
                            try clear hfz46_0
                            try clear hfz46_1
                            try clear hfz50_0
                            try clear hfz50_1
                            try clear hfz56_0
                            try clear hfz56_1
                            try clear hfz58_0
                            try clear hfz58_1
                            try clear hfz62_0
                            try clear hfz62_1
                            try clear hfz7_0
                            try clear hfz7_1
                            try clear hx17_0
                            try clear hx25_0
                            try clear hx29_0
                            try clear hx45_0
                            try clear hx913_0
                            try clear hx914_0
                            try clear hx916_0
                            try clear hx917_0
                            try clear hx919_0
                            try clear hx920_0
                            try clear hx922_0
                            try clear hx923_0
                            try clear hx937_0
                            try clear p1
                            try clear p17
                            try clear p2
                            try clear p25
                            try clear p29
                            try clear p4
                            try clear p45
                            try clear p6
                            try clear p64
                            try clear p9
                            try clear p913
                            try clear p914
                            try clear p916
                            try clear p917
                            try clear p919
                            try clear p920
                            try clear p922
                            try clear p923
                            try clear p937
                            try clear q1
                            try clear q17
                            try clear q2
                            try clear q25
                            try clear q29
                            try clear q4
                            try clear q45
                            try clear q9
                            try clear q913
                            try clear q914
                            try clear q916
                            try clear q917
                            try clear q919
                            try clear q920
                            try clear q922
                            try clear q923
                            try clear q937
                            obtain ⟨x11_3, x87_3, rfl, HA, HK3, HO_6, HO_9, HO_10, HO_11, HO_12, HO_78, BK908, HLR, HB⟩ := hrel
                            clear HR937_0
                            have HR937_0 := Aside0.mk (Kd.R_reads' HLR.out).2.2
                            cases gk with
                            | zero => exact absurd HA.out (by simp [impl_FixedPoints.l2])
                            | succ k3 =>
                              have H := HA.out
                              clear HA
                              simp only [impl_FixedPoints.l2] at H
                              by_cases c68 : x87_3 < ((rd_L3 t934 x80_2).length : Int)
                              · rw [if_pos c68] at H
                                have c68b0 : decide (x87_3 < ((rd_L3 t934 x80_2).length : Int)) = true := decide_eq_true c68
                                clear c68
                                by_cases c69 : 0 ≤ x87_3
                                · rw [if_pos c69] at H
                                  have c69b0 : decide (0 ≤ x87_3) = true := decide_eq_true c69
                                  clear c69
                                  by_cases c70 : x87_3 < ((rd_L3 t934 x80_2).length : Int)
                                  · rw [if_pos c70] at H
                                    have c70b0 : decide (x87_3 < ((rd_L3 t934 x80_2).length : Int)) = true := decide_eq_true c70
                                    clear c70
                                    by_cases c71 : 0 ≤ (rd (rd_L3 t934 x80_2) x87_3)
                                    · rw [if_pos c71] at H
                                      have c71b0 : decide (0 ≤ (rd (rd_L3 t934 x80_2) x87_3)) = true := decide_eq_true c71
                                      clear c71
                                      by_cases c72 : (rd (rd_L3 t934 x80_2) x87_3) < (x11_3.length : Int)
                                      · rw [if_pos c72] at H
                                        have c72b0 : decide ((rd (rd_L3 t934 x80_2) x87_3) < (x11_3.length : Int)) = true := decide_eq_true c72
                                        clear c72
                                        obtain ⟨y939, hy939⟩ : ∃ y_ : List Int, y_ = (x11_3.set ((rd (rd_L3 t934 x80_2) x87_3) : Int).toNat x80_2) := ⟨_, rfl⟩
                                        replace H : (impl_FixedPoints.l2 k3 l1 x6_1 t925 t928 y939 t934 x80_2 t934 (t934.length : Int) x80_2 (rd_L3 t934 x80_2) ((rd_L3 t934 x80_2).length : Int) (wrap64 (x87_3 + 1))) = some (r1, r2) := by first | (rw [hy939]; with_reducible exact H) | (have H2_ := (Option.bind_some _ _).symm.trans H; rw [hy939]; with_reducible exact H2_) | (have H2_ := (Option.bind_some _ _).symm.trans H; with_reducible exact H2_) | with_reducible exact H | (rw [hy939]; exact H) | exact H
                                        have Ny939 := Aside0.mk hy939
                                        clear hy939
                                        have H' := Aside0.mk H
                                        clear H
                                        have p938 : 0 ≤ (x87_3 : Int) := of_decide_eq_true (by first | (with_reducible assumption) | assumption)
                                        have q938 : x87_3 < ((rd_L3 t934 x80_2).length : Int) := of_decide_eq_true (by first | (with_reducible assumption) | assumption)
                                        obtain ⟨ad938, e938, hx938_0⟩ := Kd.at_int HR937_0.out x87_3 p938 q938
                                        cases e938
                                        (try replace hx938_0 := (HB.out.cell (World.block_lt_of_cell? w _ hx938_0)).trans hx938_0)
                                        replace p938 := eq_true p938
                                        replace q938 := eq_true q938
                                        have p73 : 0 ≤ ((rd (rd_L3 t934 x80_2) x87_3) : Int) := of_decide_eq_true (by first | (with_reducible assumption) | assumption)
                                        have q73 : ((rd (rd_L3 t934 x80_2) x87_3) : Int) < ((x11_3.length : Int) : Int) := of_decide_eq_true (by first | (with_reducible assumption) | assumption)
                                        obtain ⟨go73, co73, eo73, gb73, gl73, cl73, HG73⟩ := Kd.R_form HO_11.out (by omega)
                                        (first | cases eo73 | (injection eo73 with ea_ en_ ec_; (first | subst ea_ | (injection ea_ with ea_; subst ea_)); subst ec_; clear en_))
                                        have GB73 := Aside0.mk gb73
                                        have GG73 := Aside0.mk HG73
                                        clear gb73 gl73 HG73
                                        obtain ⟨hx73_0, hf73_0⟩ := Kd.R_celln 0 HO_11.out ((rd (rd_L3 t934 x80_2) x87_3) : Int) p73 q73
                                        replace p73 := eq_true p73
                                        replace q73 := eq_true q73
                                        have HP74 := Kd.R_putg HO_11.out ((rd (rd_L3 t934 x80_2) x87_3) : Int) x80_2
                                        go_wp2_with (first | ((with_reducible refine gate_store (t := 3) (p := 94) rfl ?_); refine store_event (t := 3) (p := 94) (v := ?vo_w75) (w1 := (wr.setCell ⟨go73, ((rd (rd_L3 t934 x80_2) x87_3) : Int).toNat, none⟩ (.int .i64 x80_2))) ?hg ?ho ?hn ?hr ?_; (case ho => rfl); (case hg => rfl); (case hn => rfl); (case hr => first | (go_simp; done) | (go_simp; rfl)); intro w75 hw; have hg : wr.grownBy w75 (some go73) := (by rw [hw]; exact HP74.2); have hp_ : Kd.R (Kd.int .i64) 3 w75 w.heap.size (fun k_ => some k_ ≠ (v911 : Value).ownBlock ∧ some k_ ≠ (v926 : Value).ownBlock ∧ some k_ ≠ (v929 : Value).ownBlock) (.slice (some ⟨go73, 0, none⟩) x11_3.length co73) y939 := (by rw [hw, Ny939.out]; exact HP74.1); clear HP74; have n0_ := Aside0.mk (Kd.R_after (v := (.slice (some ⟨go73, 0, none⟩) x11_3.length co73)) (v1 := (.slice (some ⟨go73, 0, none⟩) x11_3.length co73)) (ok := (fun k_ => some k_ ≠ (v926 : Value).ownBlock ∧ some k_ ≠ (v929 : Value).ownBlock)) (by (with_reducible repeat (first | apply Kd.R_alloc | apply Kd.R_drewN | apply Kd.R_drew)); exact Kd.R_mono HO_6.out (fun _ hk => ⟨⟨hk.1, hk.2.1⟩, hk.2.2⟩)) hg (.inl rfl)); have n1_ := Aside0.mk (Kd.R_after (v := (.slice (some ⟨go73, 0, none⟩) x11_3.length co73)) (v1 := (.slice (some ⟨go73, 0, none⟩) x11_3.length co73)) (ok := (fun k_ => some k_ ≠ (v911 : Value).ownBlock ∧ some k_ ≠ (v929 : Value).ownBlock)) (by (with_reducible repeat (first | apply Kd.R_alloc | apply Kd.R_drewN | apply Kd.R_drew)); exact Kd.R_mono HO_9.out (fun _ hk => ⟨⟨hk.1, hk.2.1⟩, hk.2.2⟩)) hg (.inl rfl)); have n2_ := Aside0.mk (Kd.R_after (v := (.slice (some ⟨go73, 0, none⟩) x11_3.length co73)) (v1 := (.slice (some ⟨go73, 0, none⟩) x11_3.length co73)) (ok := (fun k_ => some k_ ≠ (v911 : Value).ownBlock ∧ some k_ ≠ (v926 : Value).ownBlock)) (by (with_reducible repeat (first | apply Kd.R_alloc | apply Kd.R_drewN | apply Kd.R_drew)); exact Kd.R_mono HO_10.out (fun _ hk => ⟨⟨hk.1, hk.2.1⟩, hk.2.2⟩)) hg (.inl rfl)); have n3_ := Aside0.mk (hp_); have n4_ := Aside0.mk (Kd.S_after (v := (.slice (some ⟨go73, 0, none⟩) x11_3.length co73)) (v1 := (.slice (some ⟨go73, 0, none⟩) x11_3.length co73)) (ok := (fun k_ => some k_ ≠ (v911 : Value).ownBlock ∧ some k_ ≠ (v926 : Value).ownBlock ∧ some k_ ≠ (v929 : Value).ownBlock)) (by (with_reducible repeat (first | apply Kd.S_alloc | apply Kd.S_drewN | apply Kd.S_drew)); exact Kd.S_mono HO_12.out (fun _ hk => ⟨⟨hk.1, ⟨hk.2.1, hk.2.2.1⟩⟩, hk.2.2.2⟩)) hg (.inl rfl)); have n5_ := Aside0.mk (Kd.S_after (v := (.slice (some ⟨go73, 0, none⟩) x11_3.length co73)) (v1 := (.slice (some ⟨go73, 0, none⟩) x11_3.length co73)) (ok := (fun k_ => some k_ ≠ (v911 : Value).ownBlock ∧ some k_ ≠ (v926 : Value).ownBlock ∧ some k_ ≠ (v929 : Value).ownBlock)) (by (with_reducible repeat (first | apply Kd.S_alloc | apply Kd.S_drewN | apply Kd.S_drew)); exact Kd.S_mono HO_78.out (fun _ hk => ⟨⟨hk.1, ⟨hk.2.1, hk.2.2.1⟩⟩, hk.2.2.2⟩)) hg (.inl rfl)); have n6_ := Aside0.mk (blk_grown (g := gb908) (o := .cells #[.slice A0_0 l0_0.length c0_0, .slice A0_1 l0_1.length c0_1] 34 (0, 0)) (by (with_reducible repeat (first | refine blk_drewN ?_ _ | refine blk_drew ?_ | refine blk_alloc ?_ _)); exact BK908.out) hg (Kd.R_ne HO_11.out BK908.out (by decide))); have n7_ := Aside0.mk ((by rw [hw]; exact below_set (HB.out) GB73.out : Below w.heap.size w w75)); have nL_ := Aside0.mk (Kd.R_grown HLR.out hg (fun k_ hk => by simpa [Value.ownBlock] using hk)); clear HLR; have HLR := nL_; clear nL_; clear HO_6; clear HO_9; clear HO_10; clear HO_11; clear HO_12; clear HO_78; clear BK908; clear HB; have HO_6 := n0_; have HO_9 := n1_; have HO_10 := n2_; have HO_11 := n3_; have HO_12 := n4_; have HO_78 := n5_; have BK908 := n6_; have HB := n7_; clear n0_ n1_ n2_ n3_ n4_ n5_ n6_ n7_; clear hg hw hp_))
                                        go_roundg k3
                                        case measure => have := HK1.out; have := HK2.out; have := HK3.out; omega
                                        case rel => exact ⟨(y939), (wrap64 (x87_3 + 1)), (by first | rfl | (simp; done) | (simp [*]; done)), H', ⟨by have := HK1.out; have := HK2.out; have := HK3.out; omega⟩, ⟨by (with_reducible repeat (first | apply Kd.R_alloc | apply Kd.R_drewN | apply Kd.R_drew)); exact Kd.R_mono HO_6.out (fun _ hk => ⟨hk.1.1, ⟨hk.1.2, hk.2⟩⟩)⟩, ⟨by (with_reducible repeat (first | apply Kd.R_alloc | apply Kd.R_drewN | apply Kd.R_drew)); exact Kd.R_mono HO_9.out (fun _ hk => ⟨hk.1.1, ⟨hk.1.2, hk.2⟩⟩)⟩, ⟨by (with_reducible repeat (first | apply Kd.R_alloc | apply Kd.R_drewN | apply Kd.R_drew)); exact Kd.R_mono HO_10.out (fun _ hk => ⟨hk.1.1, ⟨hk.1.2, hk.2⟩⟩)⟩, ⟨by (with_reducible repeat (first | apply Kd.R_alloc | apply Kd.R_drewN | apply Kd.R_drew)); exact HO_11.out⟩, ⟨by (with_reducible repeat (first | apply Kd.S_alloc | apply Kd.S_drewN | apply Kd.S_drew)); exact Kd.S_mono HO_12.out (fun _ hk => ⟨hk.1.1, ⟨hk.1.2.1, ⟨hk.1.2.2, hk.2⟩⟩⟩)⟩, ⟨by (with_reducible repeat (first | apply Kd.S_alloc | apply Kd.S_drewN | apply Kd.S_drew)); exact Kd.S_mono HO_78.out (fun _ hk => ⟨hk.1.1, ⟨hk.1.2.1, ⟨hk.1.2.2, hk.2⟩⟩⟩)⟩, ⟨by (with_reducible repeat (first | refine blk_drewN ?_ _ | refine blk_drew ?_ | refine blk_alloc ?_ _)); exact BK908.out⟩, ⟨by (with_reducible repeat (first | apply Kd.R_alloc | apply Kd.R_drewN | apply Kd.R_drew)); exact HLR.out⟩, ⟨by repeat (first | (with_reducible first | exact HB.out | apply below_alloc | apply pw_below_drewN | apply below_drew1 | refine below_set ?_ GE908.out) | exact HB.out)⟩⟩
                                      · rw [if_neg c72] at H
                                        exact absurd H (by simp)
                                    · rw [if_neg c71] at H
                                      exact absurd H (by simp)
                                  · rw [if_neg c70] at H
                                    exact absurd H (by simp)
                                · rw [if_neg c69] at H
                                  exact absurd H (by simp)
                              · rw [if_neg c68] at H
                                have c68b0 : decide (x87_3 < ((rd_L3 t934 x80_2).length : Int)) = false := decide_eq_false c68
                                clear c68
                                have H' := Aside0.mk H
                                clear H
                                go_wp2
                                go_roundg k3
                                case measure => have := HK1.out; have := HK2.out; have := HK3.out; omega
                                case rel => exact ⟨(x11_3), (wrap64 (x80_2 + 1)), (by first | rfl | (simp; done) | (simp [*]; done)), H', ⟨by have := HK1.out; have := HK2.out; have := HK3.out; omega⟩, ⟨by (with_reducible repeat (first | apply Kd.R_alloc | apply Kd.R_drewN | apply Kd.R_drew)); exact HO_6.out⟩, ⟨by (with_reducible repeat (first | apply Kd.R_alloc | apply Kd.R_drewN | apply Kd.R_drew)); exact HO_9.out⟩, ⟨by (with_reducible repeat (first | apply Kd.R_alloc | apply Kd.R_drewN | apply Kd.R_drew)); exact HO_10.out⟩, ⟨by (with_reducible repeat (first | apply Kd.R_alloc | apply Kd.R_drewN | apply Kd.R_drew)); exact HO_11.out⟩, ⟨by (with_reducible repeat (first | apply Kd.S_alloc | apply Kd.S_drewN | apply Kd.S_drew)); exact HO_12.out⟩, ⟨by (with_reducible repeat (first | apply Kd.S_alloc | apply Kd.S_drewN | apply Kd.S_drew)); exact HO_78.out⟩, ⟨by (with_reducible repeat (first | refine blk_drewN ?_ _ | refine blk_drew ?_ | refine blk_alloc ?_ _)); exact BK908.out⟩, ⟨by repeat (first | (with_reducible first | exact HB.out | apply below_alloc | apply pw_below_drewN | apply below_drew1 | refine below_set ?_ GE908.out) | exact HB.out)⟩⟩
                        · rw [if_neg c67] at H
                          exact absurd H (by simp)
                      · rw [if_neg c66] at H
                        exact absurd H (by simp)
                    · rw [if_neg c65] at H
                      have c65b0 : decide (x80_2 < (t934.length : Int)) = false := decide_eq_false c65
                      clear c65
                      have H' := Aside0.mk H
                      clear H
                      go_wp2
                      go_loopg [99] k2 (fun kq v99 w' => ∃ (x6_3 : List Int) (x99_3 : Int), v99 = .int .i64 x99_3 ∧ Aside0 (impl_FixedPoints.l3 kq l1 x6_3 t925 t928 x11_2 t934 (t934.length : Int) x99_3 = some (r1, r2)) ∧ Aside0 (kq ≤ k2) ∧ Aside0 (Kd.R (Kd.int .i64) 3 w' w.heap.size (fun k_ => some k_ ≠ (v926 : Value).ownBlock ∧ some k_ ≠ (v929 : Value).ownBlock ∧ some k_ ≠ (v932 : Value).ownBlock) v911 x6_3) ∧ Aside0 (Kd.R (Kd.int .i64) 3 w' w.heap.size (fun k_ => some k_ ≠ (v911 : Value).ownBlock ∧ some k_ ≠ (v929 : Value).ownBlock ∧ some k_ ≠ (v932 : Value).ownBlock) v926 t925) ∧ Aside0 (Kd.R (Kd.int .i64) 3 w' w.heap.size (fun k_ => some k_ ≠ (v911 : Value).ownBlock ∧ some k_ ≠ (v926 : Value).ownBlock ∧ some k_ ≠ (v932 : Value).ownBlock) v929 t928) ∧ Aside0 (Kd.R (Kd.int .i64) 3 w' w.heap.size (fun k_ => some k_ ≠ (v911 : Value).ownBlock ∧ some k_ ≠ (v926 : Value).ownBlock ∧ some k_ ≠ (v929 : Value).ownBlock) v932 x11_2) ∧ Aside0 (Kd.S (Kd.slice 3 (Kd.int .i64)) 29 w' w.heap.size (fun k_ => some k_ ≠ (v911 : Value).ownBlock ∧ some k_ ≠ (v926 : Value).ownBlock ∧ some k_ ≠ (v929 : Value).ownBlock ∧ some k_ ≠ (v932 : Value).ownBlock) (.slice Ao64 t934.length co64) t934) ∧ Aside0 (w'.heap[gb908]? = some (.cells #[(.slice A0_0 l0_0.length c0_0), (.slice A0_1 l0_1.length c0_1)] 34 (0, 0))) ∧ Aside0 (Below w.heap.size w w'))
                      case atStart => exact ⟨(x6_1), (0), (by first | rfl | (simp; done) | (simp [*]; done)), H', ⟨Nat.le_refl _⟩, ⟨by (with_reducible repeat (first | apply Kd.R_alloc | apply Kd.R_drewN | apply Kd.R_drew)); exact HO_6.out⟩, ⟨by (with_reducible repeat (first | apply Kd.R_alloc | apply Kd.R_drewN | apply Kd.R_drew)); exact HO_9.out⟩, ⟨by (with_reducible repeat (first | apply Kd.R_alloc | apply Kd.R_drewN | apply Kd.R_drew)); exact HO_10.out⟩, ⟨by (with_reducible repeat (first | apply Kd.R_alloc | apply Kd.R_drewN | apply Kd.R_drew)); exact HO_11.out⟩, ⟨by (with_reducible repeat (first | apply Kd.S_alloc | apply Kd.S_drewN | apply Kd.S_drew)); exact HO_12.out⟩, ⟨by (with_reducible repeat (first | refine blk_drewN ?_ _ | refine blk_drew ?_ | refine blk_alloc ?_ _)); exact BK908.out⟩, ⟨by repeat (first | (with_reducible first | exact HB.out | apply below_alloc | apply pw_below_drewN | apply below_drew1 | refine below_set ?_ GE908.out) | exact HB.out)⟩⟩
                      case round =>
                        clear H'
                        try clear c1
                        try clear p1
                        try clear q1
                        try clear hx1
                        try clear qi1
                        try clear c2
                        try clear p2
                        try clear q2
                        try clear hx2
                        try clear qi2
                        try clear hf2
                        try clear c4
                        try clear p4
                        try clear q4
                        try clear hx4
                        try clear qi4
                        try clear hf4
                        try clear c5
                        try clear c5b0
                        try clear c5b1
                        try clear c6
                        try clear p6
                        try clear c7
                        try clear p7
                        try clear q7
                        try clear hx7
                        try clear hf7
                        try clear c8
                        try clear c9
                        try clear p9
                        try clear q9
                        try clear hx9
                        try clear qi9
                        try clear c11
                        try clear c11b0
                        try clear c12
                        try clear c12b0
                        try clear c13
                        try clear c13b0
                        try clear c15
                        try clear c15b0
                        try clear c15b1
                        try clear c16
                        try clear c16b0
                        try clear c16b1
                        try clear p17
                        try clear q17
                        try clear hx17
                        try clear qi17
                        try clear hf17
                        try clear c21
                        try clear c21b0
                        try clear c22
                        try clear c22b0
                        try clear c23
                        try clear c23b0
                        try clear c23b1
                        try clear c24
                        try clear c24b0
                        try clear c24b1
                        try clear p25
                        try clear q25
                        try clear hx25
                        try clear qi25
                        try clear hf25
                        try clear c26
                        try clear c26b0
                        try clear c27
                        try clear c27b0
                        try clear c27b1
                        try clear c28
                        try clear c28b0
                        try clear c28b1
                        try clear p29
                        try clear q29
                        try clear hx29
                        try clear qi29
                        try clear hf29
                        try clear c42
                        try clear c42b0
                        try clear c43
                        try clear c43b0
                        try clear c43b1
                        try clear c44
                        try clear c44b0
                        try clear c44b1
                        try clear p45
                        try clear q45
                        try clear hx45
                        try clear qi45
                        try clear hf45
                        try clear c51
                        try clear c53
                        try clear c53b0
                        try clear c53b1
                        try clear c54
                        try clear c54b0
                        try clear c54b1
                        try clear c63
                        try clear p64
                        try clear c65
                        try clear c65b0
                        try clear c66
                        try clear c66b0
                        try clear c67
                        try clear c67b0
                        try clear c68
                        try clear c68b0
                        try clear c69
                        try clear c69b0
                        try clear c70
                        try clear c70b0
                        try clear c71
                        try clear c71b0
                        try clear c72
                        try clear c72b0
                        try clear p73
                        try clear q73
                        try clear hx73
                        try clear hf73
                        try clear hcz30_0
                        try clear hcz30_1
                        try clear hcz34_0
                        try clear hcz34_1
                        try clear hcz37_0
                        try clear hcz37_1
                        try clear hcz41_0
                        try clear hcz41_1
                        try clear hcz46_0
                        try clear hcz46_1
                        try clear hcz50_0
                        try clear hcz50_1
                        try clear hcz56_0
                        try clear hcz56_1
                        try clear hcz58_0
                        try clear hcz58_1
                        try clear hcz62_0
                        try clear hcz62_1
                        try clear hcz7_0
                        try clear hcz7_1
                        try clear hfz30_0
                        try clear hfz30_1
                        try clear hfz34_0
                        try clear hfz34_1
                        try clear hfz37_0
                        try clear hfz37_1
                        try clear hfz41_0
                        try clear hfz41_1
                        try clear hfz46_0
                        try clear hfz46_1
                        try clear hfz50_0
                        try clear hfz50_1
                        try clear hfz56_0
                        try clear hfz56_1
                        try clear hfz58_0
                        try clear hfz58_1
                        try clear hfz62_0
                        try clear hfz62_1
                        try clear hfz7_0
                        try clear hfz7_1
                        try clear hx17_0
                        try clear hx25_0
                        try clear hx29_0
                        try clear hx45_0
                        try clear hx73_0
                        try clear hx913_0
                        try clear hx914_0
                        try clear hx916_0
                        try clear hx917_0
                        try clear hx919_0
                        try clear hx920_0
                        try clear hx922_0
                        try clear hx923_0
                        try clear hx937_0
                        try clear hx938_0
                        try clear p1
                        try clear p17
                        try clear p2
                        try clear p25
                        try clear p29
                        try clear p4
                        try clear p45
                        try clear p6
                        try clear p64
                        try clear p73
                        try clear p9
                        try clear p913
                        try clear p914
                        try clear p916
                        try clear p917
                        try clear p919
                        try clear p920
                        try clear p922
                        try clear p923
                        try clear p937
                        try clear p938
                        try clear q1
                        try clear q17
                        try clear q2
                        try clear q25
                        try clear q29
                        try clear q4
                        try clear q45
                        try clear q73
                        try clear q9
                        try clear q913
                        try clear q914
                        try clear q916
                        try clear q917
                        try clear q919
                        try clear q920
                        try clear q922
                        try clear q923
                        try clear q937
                        try clear q938
                        obtain ⟨x6_3, x99_3, rfl, HA, HK3, HO_6, HO_9, HO_10, HO_11, HO_97, BK908, HB⟩ := hrel
                        cases gk with
                        | zero => exact absurd HA.out (by simp [impl_FixedPoints.l3])
                        | succ k3 =>
                          have H := HA.out
                          clear HA
                          simp only [impl_FixedPoints.l3] at H
                          by_cases c76 : x99_3 < (t934.length : Int)
                          · rw [if_pos c76] at H
                            have c76b0 : decide (x99_3 < (t934.length : Int)) = true := decide_eq_true c76
                            clear c76
                            by_cases c77 : 0 ≤ x99_3
                            · rw [if_pos c77] at H
                              have c77b0 : decide (0 ≤ x99_3) = true := decide_eq_true c77
                              clear c77
                              by_cases c78 : x99_3 < (t934.length : Int)
                              · rw [if_pos c78] at H
                                have c78b0 : decide (x99_3 < (t934.length : Int)) = true := decide_eq_true c78
                                clear c78
                                have H' := Aside0.mk H
                                clear H
                                have p940 : 0 ≤ (x99_3 : Int) := of_decide_eq_true (by first | (with_reducible assumption) | assumption)
                                have q940 : x99_3 < (t934.length : Int) := of_decide_eq_true (by first | (with_reducible assumption) | assumption)
                                obtain ⟨ad940, A940_0, c940_0, e940, hx940_0, hl940_0, hi940_0⟩ := at_L3 (Kd.S_reads' HO_97.out).2.2 x99_3 p940 q940
                                cases e940
                                obtain ⟨ce940, hce940, hMe940, hcc940⟩ := Kd.S_get HO_97.out [] x99_3 p940 (by first | exact q940 | exact of_decide_eq_true (by first | (with_reducible assumption) | assumption) | (have e_ := (Kd.S_reads' HO_97.out).1; omega))
                                obtain ⟨ve940_0, rfl, ge940_0⟩ := hMe940
                                have hv940_0 := hcc940 0 _ rfl
                                rw [Nat.add_zero, show ((Kd.slice 3 (Kd.int .i64))).sz = 1 from rfl, Nat.mul_one] at hv940_0
                                replace hv940_0 := Option.some.inj (hv940_0.symm.trans hx940_0)
                                rw [hv940_0] at ge940_0
                                have HL940_0 := Aside0.mk (show Kd.R (Kd.int .i64) 3 _ _ _ _ (rd_L3 t934 x99_3) from ge940_0)
                                clear hv940_0 ge940_0
                                clear hcc940 hce940
                                have HR940_0 := Aside0.mk hi940_0
                                have HC940_0 := Aside0.mk hl940_0
                                clear hi940_0 hl940_0
                                replace p940 := eq_true p940
                                replace q940 := eq_true q940
                                go_wp2
                                go_loopg [19, 106] k3 (fun kq v19 v106 w' => ∃ (x19_4 : Bool) (x106_4 : Int), v19 = .bool x19_4 ∧ v106 = .int .i64 x106_4 ∧ Aside0 (impl_FixedPoints.l4 kq l1 x6_3 t925 t928 x11_2 x99_3 x19_4 t934 (t934.length : Int) x99_3 (rd_L3 t934 x99_3) ((rd_L3 t934 x99_3).length : Int) x106_4 = some (r1, r2)) ∧ Aside0 (kq ≤ k3) ∧ Aside0 (Kd.R (Kd.int .i64) 3 w' w.heap.size (fun k_ => some k_ ≠ (v926 : Value).ownBlock ∧ some k_ ≠ (v929 : Value).ownBlock ∧ some k_ ≠ (v932 : Value).ownBlock) v911 x6_3) ∧ Aside0 (Kd.R (Kd.int .i64) 3 w' w.heap.size (fun k_ => some k_ ≠ (v911 : Value).ownBlock ∧ some k_ ≠ (v929 : Value).ownBlock ∧ some k_ ≠ (v932 : Value).ownBlock) v926 t925) ∧ Aside0 (Kd.R (Kd.int .i64) 3 w' w.heap.size (fun k_ => some k_ ≠ (v911 : Value).ownBlock ∧ some k_ ≠ (v926 : Value).ownBlock ∧ some k_ ≠ (v932 : Value).ownBlock) v929 t928) ∧ Aside0 (Kd.R (Kd.int .i64) 3 w' w.heap.size (fun k_ => some k_ ≠ (v911 : Value).ownBlock ∧ some k_ ≠ (v926 : Value).ownBlock ∧ some k_ ≠ (v929 : Value).ownBlock) v932 x11_2) ∧ Aside0 (Kd.S (Kd.slice 3 (Kd.int .i64)) 29 w' w.heap.size (fun k_ => some k_ ≠ (v911 : Value).ownBlock ∧ some k_ ≠ (v926 : Value).ownBlock ∧ some k_ ≠ (v929 : Value).ownBlock ∧ some k_ ≠ (v932 : Value).ownBlock) (.slice (some ad940) t934.length co64) t934) ∧ Aside0 (w'.heap[gb908]? = some (.cells #[(.slice A0_0 l0_0.length c0_0), (.slice A0_1 l0_1.length c0_1)] 34 (0, 0))) ∧ Aside0 (Kd.C (Kd.int .i64) w' A940_0 (rd_L3 t934 x99_3).length (rd_L3 t934 x99_3)) ∧ Aside0 (Below w.heap.size w w'))
                                case atStart => exact ⟨(true), (0), (by first | rfl | (simp; done) | (simp [*]; done)), (by first | rfl | (simp; done) | (simp [*]; done)), H', ⟨Nat.le_refl _⟩, ⟨by (with_reducible repeat (first | apply Kd.R_alloc | apply Kd.R_drewN | apply Kd.R_drew)); exact HO_6.out⟩, ⟨by (with_reducible repeat (first | apply Kd.R_alloc | apply Kd.R_drewN | apply Kd.R_drew)); exact HO_9.out⟩, ⟨by (with_reducible repeat (first | apply Kd.R_alloc | apply Kd.R_drewN | apply Kd.R_drew)); exact HO_10.out⟩, ⟨by (with_reducible repeat (first | apply Kd.R_alloc | apply Kd.R_drewN | apply Kd.R_drew)); exact HO_11.out⟩, ⟨by (with_reducible repeat (first | apply Kd.S_alloc | apply Kd.S_drewN | apply Kd.S_drew)); exact HO_97.out⟩, ⟨by (with_reducible repeat (first | refine blk_drewN ?_ _ | refine blk_drew ?_ | refine blk_alloc ?_ _)); exact BK908.out⟩, ⟨by repeat (first | (with_reducible exact HR940_0.out) | (with_reducible refine Kd.C_alloc ?_ _) | (with_reducible refine Kd.C_drewN ?_ _) | (with_reducible refine Kd.C_drew ?_) | exact HR940_0.out)⟩, ⟨by repeat (first | (with_reducible first | exact HB.out | apply below_alloc | apply pw_below_drewN | apply below_drew1 | refine below_set ?_ GE908.out) | exact HB.out)⟩⟩
                                case round =>
                                  clear H'
                                  try clear c1
                                  try clear p1
                                  try clear q1
                                  try clear hx1
                                  try clear qi1
                                  try clear c2
                                  try clear p2
                                  try clear q2
                                  try clear hx2
                                  try clear qi2
                                  try clear hf2
                                  try clear c4
                                  try clear p4
                                  try clear q4
                                  try clear hx4
                                  try clear qi4
                                  try clear hf4
                                  try clear c5
                                  try clear c5b0
                                  try clear c5b1
                                  try clear c6
                                  try clear p6
                                  try clear c7
                                  try clear p7
                                  try clear q7
                                  try clear hx7
                                  try clear hf7
                                  try clear c8
                                  try clear c9
                                  try clear p9
                                  try clear q9
                                  try clear hx9
                                  try clear qi9
                                  try clear c11
                                  try clear c11b0
                                  try clear c12
                                  try clear c12b0
                                  try clear c13
                                  try clear c13b0
                                  try clear c15
                                  try clear c15b0
                                  try clear c15b1
                                  try clear c16
                                  try clear c16b0
                                  try clear c16b1
                                  try clear p17
                                  try clear q17
                                  try clear hx17
                                  try clear qi17
                                  try clear hf17
                                  try clear c21
                                  try clear c21b0
                                  try clear c22
                                  try clear c22b0
                                  try clear c23
                                  try clear c23b0
                                  try clear c23b1
                                  try clear c24
                                  try clear c24b0
                                  try clear c24b1
                                  try clear p25
                                  try clear q25
                                  try clear hx25
                                  try clear qi25
                                  try clear hf25
                                  try clear c26
                                  try clear c26b0
                                  try clear c27
                                  try clear c27b0
                                  try clear c27b1
                                  try clear c28
                                  try clear c28b0
                                  try clear c28b1
                                  try clear p29
                                  try clear q29
                                  try clear hx29
                                  try clear qi29
                                  try clear hf29
                                  try clear c42
                                  try clear c42b0
                                  try clear c43
                                  try clear c43b0
                                  try clear c43b1
                                  try clear c44
                                  try clear c44b0
                                  try clear c44b1
                                  try clear p45
                                  try clear q45
                                  try clear hx45
                                  try clear qi45
                                  try clear hf45
                                  try clear c51
                                  try clear c53
                                  try clear c53b0
                                  try clear c53b1
                                  try clear c54
                                  try clear c54b0
                                  try clear c54b1
                                  try clear c63
                                  try clear p64
                                  try clear c65
                                  try clear c65b0
                                  try clear c66
                                  try clear c66b0
                                  try clear c67
                                  try clear c67b0
                                  try clear c68
                                  try clear c68b0
                                  try clear c69
                                  try clear c69b0
                                  try clear c70
                                  try clear c70b0
                                  try clear c71
                                  try clear c71b0
                                  try clear c72
                                  try clear c72b0
                                  try clear p73
                                  try clear q73
                                  try clear hx73
                                  try clear hf73
                                  try clear c76
                                  try clear c76b0
                                  try clear c77
                                  try clear c77b0
                                  try clear c78
                                  try clear c78b0
                                  try clear hcz30_0
                                  try clear hcz30_1
                                  try clear hcz34_0
                                  try clear hcz34_1
                                  try clear hcz37_0
                                  try clear hcz37_1
                                  try clear hcz41_0
                                  try clear hcz41_1
                                  try clear hcz46_0
                                  try clear hcz46_1
                                  try clear hcz50_0
                                  try clear hcz50_1
                                  try clear hcz56_0
                                  try clear hcz56_1
                                  try clear hcz58_0
                                  try clear hcz58_1
                                  try clear hcz62_0
                                  try clear hcz62_1
                                  try clear hcz7_0
                                  try clear hcz7_1
                                  try clear hfz30_0
                                  try clear hfz30_1
                                  try clear hfz34_0
                                  try clear hfz34_1
                                  try clear hfz37_0
                                  try clear hfz37_1
                                  try clear hfz41_0
                                  try clear hfz41_1
                                  try clear hfz46_0
                                  try clear hfz46_1
                                  try clear hfz50_0
                                  try clear hfz50_1
                                  try clear hfz56_0
                                  try clear hfz56_1
                                  try clear hfz58_0
                                  try clear hfz58_1
                                  try clear hfz62_0
                                  try clear hfz62_1
                                  try clear hfz7_0
                                  try clear hfz7_1
                                  try clear hx17_0
                                  try clear hx25_0
                                  try clear hx29_0
                                  try clear hx45_0
                                  try clear hx73_0
                                  try clear hx913_0
                                  try clear hx914_0
                                  try clear hx916_0
                                  try clear hx917_0
                                  try clear hx919_0
                                  try clear hx920_0
                                  try clear hx922_0
                                  try clear hx923_0
                                  try clear hx937_0
                                  try clear hx938_0
                                  try clear hx940_0
                                  try clear p1
                                  try clear p17
                                  try clear p2
                                  try clear p25
                                  try clear p29
                                  try clear p4
                                  try clear p45
                                  try clear p6
                                  try clear p64
                                  try clear p7
                                  try clear p73
                                  try clear p9
                                  try clear p913
                                  try clear p914
                                  try clear p916
                                  try clear p917
                                  try clear p919
                                  try clear p920
                                  try clear p922
                                  try clear p923
                                  try clear p937
                                  try clear p938
                                  try clear p940
                                  try clear q1
                                  try clear q17
                                  try clear q2
                                  try clear q25
                                  try clear q29
                                  try clear q4
                                  try clear q45
                                  try clear q7
                                  try clear q73
                                  try clear q9
                                  try clear q913
                                  try clear q914
                                  try clear q916
                                  try clear q917
                                  try clear q919
                                  try clear q920
                                  try clear q922
                                  try clear q923
                                  try clear q937
                                  try clear q938
                                  try clear q940
                                  obtain ⟨x19_4, x106_4, rfl, rfl, HA, HK4, HO_6, HO_9, HO_10, HO_11, HO_97, BK908, HR940_0, HB⟩ := hrel
                                  cases gk with
                                  | zero => exact absurd HA.out (by simp [impl_FixedPoints.l4])
                                  | succ k4 =>
                                    have H := HA.out
                                    clear HA
                                    simp only [impl_FixedPoints.l4] at H
                                    by_cases c79 : x106_4 < ((rd_L3 t934 x99_3).length : Int)
                                    · rw [if_pos c79] at H
                                      have c79b0 : decide (x106_4 < ((rd_L3 t934 x99_3).length : Int)) = true := decide_eq_true c79
                                      clear c79
                                      by_cases c80 : 0 ≤ x106_4
                                      · rw [if_pos c80] at H
                                        have c80b0 : decide (0 ≤ x106_4) = true := decide_eq_true c80
                                        clear c80
                                        by_cases c81 : x106_4 < ((rd_L3 t934 x99_3).length : Int)
                                        · rw [if_pos c81] at H
                                          have c81b0 : decide (x106_4 < ((rd_L3 t934 x99_3).length : Int)) = true := decide_eq_true c81
                                          clear c81
                                          by_cases c82 : x19_4 = true
                                          · subst c82
                                            have H1 : (if 0 ≤ (rd (rd_L3 t934 x99_3) x106_4) then (if (rd (rd_L3 t934 x99_3) x106_4) < (l1.length : Int) then (if 0 ≤ (rd l1 (rd (rd_L3 t934 x99_3) x106_4)) then (if (rd l1 (rd (rd_L3 t934 x99_3) x106_4)) < (t925.length : Int) then (if 0 ≤ (rd t925 (rd l1 (rd (rd_L3 t934 x99_3) x106_4))) then (if (rd t925 (rd l1 (rd (rd_L3 t934 x99_3) x106_4))) < (t928.length : Int) then (if 0 ≤ (rd t928 (rd t925 (rd l1 (rd (rd_L3 t934 x99_3) x106_4)))) then (if (rd t928 (rd t925 (rd l1 (rd (rd_L3 t934 x99_3) x106_4)))) < (x11_2.length : Int) then (impl_FixedPoints.l4 k4 l1 x6_3 t925 t928 x11_2 x99_3 ((rd x11_2 (rd t928 (rd t925 (rd l1 (rd (rd_L3 t934 x99_3) x106_4))))) == x99_3) t934 (t934.length : Int) x99_3 (rd_L3 t934 x99_3) ((rd_L3 t934 x99_3).length : Int) (wrap64 (x106_4 + 1))) else (none)) else (none)) else (none)) else (none)) else (none)) else (none)) else (none)) else (none)) = some (r1, r2) := by rw [if_pos rfl] at H; exact H
                                            clear H
                                            have H := H1
                                            clear H1
                                            by_cases c83 : 0 ≤ (rd (rd_L3 t934 x99_3) x106_4)
                                            · rw [if_pos c83] at H
                                              have c83b0 : decide (0 ≤ (rd (rd_L3 t934 x99_3) x106_4)) = true := decide_eq_true c83
                                              clear c83
                                              by_cases c84 : (rd (rd_L3 t934 x99_3) x106_4) < (l1.length : Int)
                                              · rw [if_pos c84] at H
                                                have c84b0 : decide ((rd (rd_L3 t934 x99_3) x106_4) < (l1.length : Int)) = true := decide_eq_true c84
                                                clear c84
                                                by_cases c85 : 0 ≤ (rd l1 (rd (rd_L3 t934 x99_3) x106_4))
                                                · rw [if_pos c85] at H
                                                  have c85b0 : decide (0 ≤ (rd l1 (rd (rd_L3 t934 x99_3) x106_4))) = true := decide_eq_true c85
                                                  clear c85
                                                  by_cases c86 : (rd l1 (rd (rd_L3 t934 x99_3) x106_4)) < (t925.length : Int)
                                                  · rw [if_pos c86] at H
                                                    have c86b0 : decide ((rd l1 (rd (rd_L3 t934 x99_3) x106_4)) < (t925.length : Int)) = true := decide_eq_true c86
                                                    clear c86
                                                    by_cases c87 : 0 ≤ (rd t925 (rd l1 (rd (rd_L3 t934 x99_3) x106_4)))
                                                    · rw [if_pos c87] at H
                                                      have c87b0 : decide (0 ≤ (rd t925 (rd l1 (rd (rd_L3 t934 x99_3) x106_4)))) = true := decide_eq_true c87
                                                      clear c87
                                                      by_cases c88 : (rd t925 (rd l1 (rd (rd_L3 t934 x99_3) x106_4))) < (t928.length : Int)
                                                      · rw [if_pos c88] at H
                                                        have c88b0 : decide ((rd t925 (rd l1 (rd (rd_L3 t934 x99_3) x106_4))) < (t928.length : Int)) = true := decide_eq_true c88
                                                        clear c88
                                                        by_cases c89 : 0 ≤ (rd t928 (rd t925 (rd l1 (rd (rd_L3 t934 x99_3) x106_4))))
                                                        · rw [if_pos c89] at H
                                                          have c89b0 : decide (0 ≤ (rd t928 (rd t925 (rd l1 (rd (rd_L3 t934 x99_3) x106_4))))) = true := decide_eq_true c89
                                                          clear c89
                                                          by_cases c90 : (rd t928 (rd t925 (rd l1 (rd (rd_L3 t934 x99_3) x106_4)))) < (x11_2.length : Int)
                                                          · rw [if_pos c90] at H
                                                            have c90b0 : decide ((rd t928 (rd t925 (rd l1 (rd (rd_L3 t934 x99_3) x106_4)))) < (x11_2.length : Int)) = true := decide_eq_true c90
                                                            clear c90
                                                            have H' := Aside0.mk H
                                                            clear H
                                                            have p941 : 0 ≤ (x106_4 : Int) := of_decide_eq_true (by first | (with_reducible assumption) | assumption)
                                                            have q941 : x106_4 < ((rd_L3 t934 x99_3).length : Int) := of_decide_eq_true (by first | (with_reducible assumption) | assumption)
                                                            obtain ⟨ad941, e941, hx941_0⟩ := Kd.at_int HR940_0.out x106_4 p941 q941
                                                            cases e941
                                                            (try replace hx941_0 := (HB.out.cell (World.block_lt_of_cell? w _ hx941_0)).trans hx941_0)
                                                            replace p941 := eq_true p941
                                                            replace q941 := eq_true q941
                                                            have p942 : 0 ≤ ((rd (rd_L3 t934 x99_3) x106_4) : Int) := of_decide_eq_true (by first | (with_reducible assumption) | assumption)
                                                            have q942 : (rd (rd_L3 t934 x99_3) x106_4) < (l1.length : Int) := of_decide_eq_true (by first | (with_reducible assumption) | assumption)
                                                            obtain ⟨ad942, e942, hx942_0⟩ := Kd.at_int HR1.out (rd (rd_L3 t934 x99_3) x106_4) p942 q942
                                                            cases e942
                                                            (try replace hx942_0 := (HB.out.cell (World.block_lt_of_cell? w _ hx942_0)).trans hx942_0)
                                                            replace p942 := eq_true p942
                                                            replace q942 := eq_true q942
                                                            obtain ⟨Ao91, co91, eo91⟩ := Kd.R_slice HO_9.out
                                                            subst eo91
                                                            have p943 : 0 ≤ ((rd l1 (rd (rd_L3 t934 x99_3) x106_4)) : Int) := of_decide_eq_true (by first | (with_reducible assumption) | assumption)
                                                            have q943 : (rd l1 (rd (rd_L3 t934 x99_3) x106_4)) < (t925.length : Int) := of_decide_eq_true (by first | (with_reducible assumption) | assumption)
                                                            obtain ⟨ad943, e943, hx943_0⟩ := Kd.at_int (Kd.R_reads' HO_9.out).2.2 (rd l1 (rd (rd_L3 t934 x99_3) x106_4)) p943 q943
                                                            cases e943
                                                            replace p943 := eq_true p943
                                                            replace q943 := eq_true q943
                                                            obtain ⟨Ao92, co92, eo92⟩ := Kd.R_slice HO_10.out
                                                            subst eo92
                                                            have p944 : 0 ≤ ((rd t925 (rd l1 (rd (rd_L3 t934 x99_3) x106_4))) : Int) := of_decide_eq_true (by first | (with_reducible assumption) | assumption)
                                                            have q944 : (rd t925 (rd l1 (rd (rd_L3 t934 x99_3) x106_4))) < (t928.length : Int) := of_decide_eq_true (by first | (with_reducible assumption) | assumption)
                                                            obtain ⟨ad944, e944, hx944_0⟩ := Kd.at_int (Kd.R_reads' HO_10.out).2.2 (rd t925 (rd l1 (rd (rd_L3 t934 x99_3) x106_4))) p944 q944
                                                            cases e944
                                                            replace p944 := eq_true p944
                                                            replace q944 := eq_true q944
                                                            obtain ⟨Ao93, co93, eo93⟩ := Kd.R_slice HO_11.out
                                                            subst eo93
                                                            have p945 : 0 ≤ ((rd t928 (rd t925 (rd l1 (rd (rd_L3 t934 x99_3) x106_4)))) : Int) := of_decide_eq_true (by first | (with_reducible assumption) | assumption)
                                                            have q945 : (rd t928 (rd t925 (rd l1 (rd (rd_L3 t934 x99_3) x106_4)))) < (x11_2.length : Int) := of_decide_eq_true (by first | (with_reducible assumption) | assumption)
                                                            obtain ⟨ad945, e945, hx945_0⟩ := Kd.at_int (Kd.R_reads' HO_11.out).2.2 (rd t928 (rd t925 (rd l1 (rd (rd_L3 t934 x99_3) x106_4)))) p945 q945
                                                            cases e945
                                                            replace p945 := eq_true p945
                                                            replace q945 := eq_true q945
                                                            go_wp2
                                                            go_roundg k4
                                                            case measure => have := HK1.out; have := HK2.out; have := HK3.out; have := HK4.out; omega
                                                            case rel => exact ⟨(((rd x11_2 (rd t928 (rd t925 (rd l1 (rd (rd_L3 t934 x99_3) x106_4))))) == x99_3)), (wrap64 (x106_4 + 1)), (by first | rfl | (simp; done) | (simp [*]; done)), (by first | rfl | (simp; done) | (simp [*]; done)), H', ⟨by have := HK1.out; have := HK2.out; have := HK3.out; have := HK4.out; omega⟩, ⟨by (with_reducible repeat (first | apply Kd.R_alloc | apply Kd.R_drewN | apply Kd.R_drew)); exact HO_6.out⟩, ⟨by (with_reducible repeat (first | apply Kd.R_alloc | apply Kd.R_drewN | apply Kd.R_drew)); exact HO_9.out⟩, ⟨by (with_reducible repeat (first | apply Kd.R_alloc | apply Kd.R_drewN | apply Kd.R_drew)); exact HO_10.out⟩, ⟨by (with_reducible repeat (first | apply Kd.R_alloc | apply Kd.R_drewN | apply Kd.R_drew)); exact HO_11.out⟩, ⟨by (with_reducible repeat (first | apply Kd.S_alloc | apply Kd.S_drewN | apply Kd.S_drew)); exact HO_97.out⟩, ⟨by (with_reducible repeat (first | refine blk_drewN ?_ _ | refine blk_drew ?_ | refine blk_alloc ?_ _)); exact BK908.out⟩, ⟨by repeat (first | (with_reducible exact HR940_0.out) | (with_reducible refine Kd.C_alloc ?_ _) | (with_reducible refine Kd.C_drewN ?_ _) | (with_reducible refine Kd.C_drew ?_) | exact HR940_0.out)⟩, ⟨by repeat (first | (with_reducible first | exact HB.out | apply below_alloc | apply pw_below_drewN | apply below_drew1 | refine below_set ?_ GE908.out) | exact HB.out)⟩⟩
                                                          · rw [if_neg c90] at H
                                                            exact absurd H (by simp)
                                                        · rw [if_neg c89] at H
                                                          exact absurd H (by simp)
                                                      · rw [if_neg c88] at H
                                                        exact absurd H (by simp)
                                                    · rw [if_neg c87] at H
                                                      exact absurd H (by simp)
                                                  · rw [if_neg c86] at H
                                                    exact absurd H (by simp)
                                                · rw [if_neg c85] at H
                                                  exact absurd H (by simp)
                                              · rw [if_neg c84] at H
                                                exact absurd H (by simp)
                                            · rw [if_neg c83] at H
                                              exact absurd H (by simp)
                                          · replace c82 := Bool.eq_false_iff.mpr c82
                                            subst c82
                                            have H1 : (impl_FixedPoints.l4 k4 l1 x6_3 t925 t928 x11_2 x99_3 false t934 (t934.length : Int) x99_3 (rd_L3 t934 x99_3) ((rd_L3 t934 x99_3).length : Int) (wrap64 (x106_4 + 1))) = some (r1, r2) := by rw [if_neg (show ¬ (false = true) by decide)] at H; exact H
                                            clear H
                                            have H := H1
                                            clear H1
                                            have H' := Aside0.mk H
                                            clear H
                                            have p941 : 0 ≤ (x106_4 : Int) := of_decide_eq_true (by first | (with_reducible assumption) | assumption)
                                            have q941 : x106_4 < ((rd_L3 t934 x99_3).length : Int) := of_decide_eq_true (by first | (with_reducible assumption) | assumption)
                                            obtain ⟨ad941, e941, hx941_0⟩ := Kd.at_int HR940_0.out x106_4 p941 q941
                                            cases e941
                                            (try replace hx941_0 := (HB.out.cell (World.block_lt_of_cell? w _ hx941_0)).trans hx941_0)
                                            replace p941 := eq_true p941
                                            replace q941 := eq_true q941
                                            go_wp2
                                            go_roundg k4
                                            case measure => have := HK1.out; have := HK2.out; have := HK3.out; have := HK4.out; omega
                                            case rel => exact ⟨(false), (wrap64 (x106_4 + 1)), (by first | rfl | (simp; done) | (simp [*]; done)), (by first | rfl | (simp; done) | (simp [*]; done)), H', ⟨by have := HK1.out; have := HK2.out; have := HK3.out; have := HK4.out; omega⟩, ⟨by (with_reducible repeat (first | apply Kd.R_alloc | apply Kd.R_drewN | apply Kd.R_drew)); exact HO_6.out⟩, ⟨by (with_reducible repeat (first | apply Kd.R_alloc | apply Kd.R_drewN | apply Kd.R_drew)); exact HO_9.out⟩, ⟨by (with_reducible repeat (first | apply Kd.R_alloc | apply Kd.R_drewN | apply Kd.R_drew)); exact HO_10.out⟩, ⟨by (with_reducible repeat (first | apply Kd.R_alloc | apply Kd.R_drewN | apply Kd.R_drew)); exact HO_11.out⟩, ⟨by (with_reducible repeat (first | apply Kd.S_alloc | apply Kd.S_drewN | apply Kd.S_drew)); exact HO_97.out⟩, ⟨by (with_reducible repeat (first | refine blk_drewN ?_ _ | refine blk_drew ?_ | refine blk_alloc ?_ _)); exact BK908.out⟩, ⟨by repeat (first | (with_reducible exact HR940_0.out) | (with_reducible refine Kd.C_alloc ?_ _) | (with_reducible refine Kd.C_drewN ?_ _) | (with_reducible refine Kd.C_drew ?_) | exact HR940_0.out)⟩, ⟨by repeat (first | (with_reducible first | exact HB.out | apply below_alloc | apply pw_below_drewN | apply below_drew1 | refine below_set ?_ GE908.out) | exact HB.out)⟩⟩
                                        · rw [if_neg c81] at H
                                          exact absurd H (by simp)
                                      · rw [if_neg c80] at H
                                        exact absurd H (by simp)
                                    · rw [if_neg c79] at H
                                      have c79b0 : decide (x106_4 < ((rd_L3 t934 x99_3).length : Int)) = false := decide_eq_false c79
                                      clear c79
                                      by_cases c94 : x19_4 = true
                                      · subst c94
                                        have H1 : (if 3 < (x6_3.length : Int) then (impl_FixedPoints.l3 k4 l1 (x6_3.set (3 : Int).toNat (wrap64 ((rd x6_3 3) + 1))) t925 t928 x11_2 t934 (t934.length : Int) (wrap64 (x99_3 + 1))) else (none)) = some (r1, r2) := by rw [if_pos rfl] at H; exact H
                                        clear H
                                        have H := H1
                                        clear H1
                                        by_cases c95 : 3 < (x6_3.length : Int)
                                        · rw [if_pos c95] at H
                                          have c95b0 : decide (3 < (x6_3.length : Int)) = true := decide_eq_true c95
                                          have c95b1 : decide (3 < x6_3.length) = true := decide_eq_true (by omega)
                                          clear c95
                                          obtain ⟨y947, hy947⟩ : ∃ y_ : List Int, y_ = (x6_3.set (3 : Int).toNat (wrap64 ((rd x6_3 3) + 1))) := ⟨_, rfl⟩
                                          replace H : (impl_FixedPoints.l3 k4 l1 y947 t925 t928 x11_2 t934 (t934.length : Int) (wrap64 (x99_3 + 1))) = some (r1, r2) := by first | (rw [hy947]; with_reducible exact H) | (have H2_ := (Option.bind_some _ _).symm.trans H; rw [hy947]; with_reducible exact H2_) | (have H2_ := (Option.bind_some _ _).symm.trans H; with_reducible exact H2_) | with_reducible exact H | (rw [hy947]; exact H) | exact H
                                          have Ny947 := Aside0.mk hy947
                                          clear hy947
                                          have H' := Aside0.mk H
                                          clear H
                                          obtain ⟨Ao97, co97, eo97⟩ := Kd.R_slice HO_6.out
                                          subst eo97
                                          have p946 : 0 ≤ (3 : Int) := (by omega)
                                          have q946 : 3 < (x6_3.length : Int) := of_decide_eq_true (by first | (with_reducible assumption) | assumption)
                                          obtain ⟨ad946, e946, hx946_0⟩ := Kd.at_int (Kd.R_reads' HO_6.out).2.2 3 p946 q946
                                          cases e946
                                          (try simp only [show (3 : Int).toNat = 3 from rfl, Nat.reduceMul, Nat.reduceEqDiff, Go.Addr.add, ↓reduceIte] at hx946_0)
                                          have qi946 : (3 < x6_3.length) = True := eq_true (by omega)
                                          (try rw [show ((3 : Int)).toNat = 3 from rfl] at hx946_0)
                                          replace p946 := eq_true p946
                                          replace q946 := eq_true q946
                                          have p96 : 0 ≤ (3 : Int) := (by omega)
                                          have q96 : (3 : Int) < ((x6_3.length : Int) : Int) := of_decide_eq_true (by first | (with_reducible assumption) | assumption)
                                          have qi96 : (3 < x6_3.length) = True := eq_true (by omega)
                                          obtain ⟨go96, co96, eo96, gb96, gl96, cl96, HG96⟩ := Kd.R_form HO_6.out (by omega)
                                          (first | cases eo96 | (injection eo96 with ea_ en_ ec_; (first | subst ea_ | (injection ea_ with ea_; subst ea_)); subst ec_; clear en_))
                                          have GB96 := Aside0.mk gb96
                                          have GG96 := Aside0.mk HG96
                                          clear gb96 gl96 HG96
                                          (first | simp only [add_plain] at hx946_0 | skip)
                                          obtain ⟨hx96_0, hf96_0⟩ := Kd.R_celln 0 HO_6.out (3 : Int) p96 q96
                                          (try rw [show ((3 : Int)).toNat = 3 from rfl] at hx96_0)
                                          (try simp only [Nat.reduceMul, Nat.zero_mul, Nat.zero_add, Nat.reduceAdd] at hx96_0)
                                          (try rw [show ((3 : Int)).toNat = 3 from rfl] at hf96_0)
                                          (try simp only [Nat.reduceMul, Nat.zero_mul, Nat.zero_add, Nat.reduceAdd] at hf96_0)
                                          replace p96 := eq_true p96
                                          replace q96 := eq_true q96
                                          have HP98 := Kd.R_putg HO_6.out (3 : Int) (wrap64 ((rd x6_3 3) + 1))
                                          go_wp2_with (first | ((with_reducible refine gate_store (t := 3) (p := 134) rfl ?_); refine store_event (t := 3) (p := 134) (v := ?vo_w99) (w1 := (wr.setCell ⟨go96, (3 : Int).toNat, none⟩ (.int .i64 (wrap64 ((rd x6_3 3) + 1))))) ?hg ?ho ?hn ?hr ?_; (case ho => rfl); (case hg => rfl); (case hn => rfl); (case hr => first | (go_simp; done) | (go_simp; rfl)); intro w99 hw; have hg : wr.grownBy w99 (some go96) := (by rw [hw]; exact HP98.2); have hp_ : Kd.R (Kd.int .i64) 3 w99 w.heap.size (fun k_ => some k_ ≠ (v926 : Value).ownBlock ∧ some k_ ≠ (v929 : Value).ownBlock ∧ some k_ ≠ (v932 : Value).ownBlock) (.slice (some ⟨go96, 0, none⟩) x6_3.length co97) y947 := (by rw [hw, Ny947.out]; exact HP98.1); clear HP98; have n0_ := Aside0.mk (hp_); have n1_ := Aside0.mk (Kd.R_after (v := (.slice (some ⟨go96, 0, none⟩) x6_3.length co97)) (v1 := (.slice (some ⟨go96, 0, none⟩) x6_3.length co97)) (ok := (fun k_ => some k_ ≠ (v929 : Value).ownBlock ∧ some k_ ≠ (v932 : Value).ownBlock)) (by (with_reducible repeat (first | apply Kd.R_alloc | apply Kd.R_drewN | apply Kd.R_drew)); exact Kd.R_mono HO_9.out (fun _ hk => ⟨⟨hk.2.1, hk.2.2⟩, hk.1⟩)) hg (.inl rfl)); have n2_ := Aside0.mk (Kd.R_after (v := (.slice (some ⟨go96, 0, none⟩) x6_3.length co97)) (v1 := (.slice (some ⟨go96, 0, none⟩) x6_3.length co97)) (ok := (fun k_ => some k_ ≠ (v926 : Value).ownBlock ∧ some k_ ≠ (v932 : Value).ownBlock)) (by (with_reducible repeat (first | apply Kd.R_alloc | apply Kd.R_drewN | apply Kd.R_drew)); exact Kd.R_mono HO_10.out (fun _ hk => ⟨⟨hk.2.1, hk.2.2⟩, hk.1⟩)) hg (.inl rfl)); have n3_ := Aside0.mk (Kd.R_after (v := (.slice (some ⟨go96, 0, none⟩) x6_3.length co97)) (v1 := (.slice (some ⟨go96, 0, none⟩) x6_3.length co97)) (ok := (fun k_ => some k_ ≠ (v926 : Value).ownBlock ∧ some k_ ≠ (v929 : Value).ownBlock)) (by (with_reducible repeat (first | apply Kd.R_alloc | apply Kd.R_drewN | apply Kd.R_drew)); exact Kd.R_mono HO_11.out (fun _ hk => ⟨⟨hk.2.1, hk.2.2⟩, hk.1⟩)) hg (.inl rfl)); have n4_ := Aside0.mk (Kd.S_after (v := (.slice (some ⟨go96, 0, none⟩) x6_3.length co97)) (v1 := (.slice (some ⟨go96, 0, none⟩) x6_3.length co97)) (ok := (fun k_ => some k_ ≠ (v926 : Value).ownBlock ∧ some k_ ≠ (v929 : Value).ownBlock ∧ some k_ ≠ (v932 : Value).ownBlock)) (by (with_reducible repeat (first | apply Kd.S_alloc | apply Kd.S_drewN | apply Kd.S_drew)); exact Kd.S_mono HO_97.out (fun _ hk => ⟨⟨hk.2.1, ⟨hk.2.2.1, hk.2.2.2⟩⟩, hk.1⟩)) hg (.inl rfl)); have n5_ := Aside0.mk (blk_grown (g := gb908) (o := .cells #[.slice A0_0 l0_0.length c0_0, .slice A0_1 l0_1.length c0_1] 34 (0, 0)) (by (with_reducible repeat (first | refine blk_drewN ?_ _ | refine blk_drew ?_ | refine blk_alloc ?_ _)); exact BK908.out) hg (Kd.R_ne HO_6.out BK908.out (by decide))); have n6_ := Aside0.mk ((by rw [hw]; exact below_set (HB.out) GB96.out : Below w.heap.size w w99)); clear HO_6; clear HO_9; clear HO_10; clear HO_11; clear HO_97; clear BK908; clear HB; have HO_6 := n0_; have HO_9 := n1_; have HO_10 := n2_; have HO_11 := n3_; have HO_97 := n4_; have BK908 := n5_; have HB := n6_; clear n0_ n1_ n2_ n3_ n4_ n5_ n6_; clear hg hw hp_))
                                          go_roundg k4
                                          case measure => have := HK1.out; have := HK2.out; have := HK3.out; have := HK4.out; omega
                                          case rel => exact ⟨(y947), (wrap64 (x99_3 + 1)), (by first | rfl | (simp; done) | (simp [*]; done)), H', ⟨by have := HK1.out; have := HK2.out; have := HK3.out; have := HK4.out; omega⟩, ⟨by (with_reducible repeat (first | apply Kd.R_alloc | apply Kd.R_drewN | apply Kd.R_drew)); exact HO_6.out⟩, ⟨by (with_reducible repeat (first | apply Kd.R_alloc | apply Kd.R_drewN | apply Kd.R_drew)); exact Kd.R_mono HO_9.out (fun _ hk => ⟨hk.2, ⟨hk.1.1, hk.1.2⟩⟩)⟩, ⟨by (with_reducible repeat (first | apply Kd.R_alloc | apply Kd.R_drewN | apply Kd.R_drew)); exact Kd.R_mono HO_10.out (fun _ hk => ⟨hk.2, ⟨hk.1.1, hk.1.2⟩⟩)⟩, ⟨by (with_reducible repeat (first | apply Kd.R_alloc | apply Kd.R_drewN | apply Kd.R_drew)); exact Kd.R_mono HO_11.out (fun _ hk => ⟨hk.2, ⟨hk.1.1, hk.1.2⟩⟩)⟩, ⟨by (with_reducible repeat (first | apply Kd.S_alloc | apply Kd.S_drewN | apply Kd.S_drew)); exact Kd.S_mono HO_97.out (fun _ hk => ⟨hk.2, ⟨hk.1.1, ⟨hk.1.2.1, hk.1.2.2⟩⟩⟩)⟩, ⟨by (with_reducible repeat (first | refine blk_drewN ?_ _ | refine blk_drew ?_ | refine blk_alloc ?_ _)); exact BK908.out⟩, ⟨by repeat (first | (with_reducible first | exact HB.out | apply below_alloc | apply pw_below_drewN | apply below_drew1 | refine below_set ?_ GE908.out) | exact HB.out)⟩⟩
                                        · rw [if_neg c95] at H
                                          exact absurd H (by simp)
                                      · replace c94 := Bool.eq_false_iff.mpr c94
                                        subst c94
                                        have H1 : (impl_FixedPoints.l3 k4 l1 x6_3 t925 t928 x11_2 t934 (t934.length : Int) (wrap64 (x99_3 + 1))) = some (r1, r2) := by rw [if_neg (show ¬ (false = true) by decide)] at H; exact H
                                        clear H
                                        have H := H1
                                        clear H1
                                        have H' := Aside0.mk H
                                        clear H
                                        go_wp2
                                        go_roundg k4
                                        case measure => have := HK1.out; have := HK2.out; have := HK3.out; have := HK4.out; omega
                                        case rel => exact ⟨(x6_3), (wrap64 (x99_3 + 1)), (by first | rfl | (simp; done) | (simp [*]; done)), H', ⟨by have := HK1.out; have := HK2.out; have := HK3.out; have := HK4.out; omega⟩, ⟨by (with_reducible repeat (first | apply Kd.R_alloc | apply Kd.R_drewN | apply Kd.R_drew)); exact HO_6.out⟩, ⟨by (with_reducible repeat (first | apply Kd.R_alloc | apply Kd.R_drewN | apply Kd.R_drew)); exact HO_9.out⟩, ⟨by (with_reducible repeat (first | apply Kd.R_alloc | apply Kd.R_drewN | apply Kd.R_drew)); exact HO_10.out⟩, ⟨by (with_reducible repeat (first | apply Kd.R_alloc | apply Kd.R_drewN | apply Kd.R_drew)); exact HO_11.out⟩, ⟨by (with_reducible repeat (first | apply Kd.S_alloc | apply Kd.S_drewN | apply Kd.S_drew)); exact HO_97.out⟩, ⟨by (with_reducible repeat (first | refine blk_drewN ?_ _ | refine blk_drew ?_ | refine blk_alloc ?_ _)); exact BK908.out⟩, ⟨by repeat (first | (with_reducible first | exact HB.out | apply below_alloc | apply pw_below_drewN | apply below_drew1 | refine below_set ?_ GE908.out) | exact HB.out)⟩⟩
                              · rw [if_neg c78] at H
                                exact absurd H (by simp)
                            · rw [if_neg c77] at H
                              exact absurd H (by simp)
                          · rw [if_neg c76] at H
                            have c76b0 : decide (x99_3 < (t934.length : Int)) = false := decide_eq_false c76
                            clear c76
                            simp only [Option.some.injEq, Prod.mk.injEq] at H
                            obtain ⟨rfl, rfl⟩ := H
                            go_wp2
                            go_ret2
                            exact ⟨_, by first | rfl | (simp [errW_none, errW_some] <;> rfl) | (simp [*, errW_none, errW_some] <;> rfl), by (with_reducible repeat (first | apply Kd.R_alloc | apply Kd.R_drewN | apply Kd.R_drew)); exact Kd.R_mono HO_6.out (fun _ hk => trivial), by repeat (first | (with_reducible first | exact HB.out | apply below_alloc | apply pw_below_drewN | apply below_drew1 | refine below_set ?_ GE908.out) | exact HB.out)⟩
              · rw [if_neg c54] at H
                exact absurd H (by simp)
            · rw [if_neg c53] at H
              exact absurd H (by simp)
    · rw [if_neg c5] at H
      exact absurd H (by simp)
  · replace c4 := Bool.eq_false_iff.mpr c4
    subst c4
    have H1 : (some (([] : List Int), false)) = some (r1, r2) := by rw [if_neg (show ¬ (false = true) by decide)] at H; exact H
    clear H
    have H := H1
    clear H1
    simp only [Option.some.injEq, Prod.mk.injEq] at H
    obtain ⟨rfl, rfl⟩ := H
    go_enter Try.func51, Try.ntmps51
    go_wp2_with (first | ((with_reducible refine gate_dst (N := 2) rfl ?_); refine box_event ?hg (N := 2) ?hd (cs := #[.slice A0_0 l0_0.length c0_0, .slice A0_1 l0_1.length c0_1]) (t := 34) ?hr ?_; (case hd => rfl); (case hg => rfl); (case hr => first | (go_simp; done) | (go_simp; rfl)); intro gb908 hg w100 hbox hb; have n0_ := Aside0.mk (below_step (by repeat (first | (with_reducible first | exact HB.out | apply below_alloc | apply pw_below_drewN | apply below_drew1) | exact HB.out)) hb); have n1_ := Aside0.mk (hbox); have n2_ := Aside0.mk ((by rw [hg]; exact (below_size (by repeat (first | (with_reducible first | exact HB.out | apply below_alloc | apply pw_below_drewN | apply below_drew1) | exact HB.out))) : w.heap.size ≤ gb908)); have n3_ := Aside0.mk ((by rw [hg]; exact (below_size (by repeat (first | (with_reducible first | exact HB.out | apply below_alloc | apply pw_below_drewN | apply below_drew1) | exact HB.out))) : w.heap.size ≤ gb908)); clear HB; have HB := n0_; have BK908 := n1_; have GW908 := n2_; have GE908 := n3_; clear n0_ n1_ n2_ n3_; clear hb hbox hg; have hcz101_0 : w100.cell? ⟨gb908, 0, none⟩ = some (.slice A0_0 l0_0.length c0_0) := (blk_cell BK908.out 0).trans rfl; have hcz101_1 : w100.cell? ⟨gb908, 1, none⟩ = some (.slice A0_1 l0_1.length c0_1) := (blk_cell BK908.out 1).trans rfl; have hfz101_0 := blk_frozen BK908.out 0; have hfz101_1 := blk_frozen BK908.out 1) | ((with_reducible refine gate_callee (f := 24) rfl ?_); refine goesL_ (some 24) rfl rfl Try.func24 (by kernel_rfl) rfl #[.agg #[.slice A0_0 l0_0.length c0_0, .slice A0_1 l0_1.length c0_1], .slice A1 l1.length c1] rfl (by (try simp only [List.map_toArray, List.map_cons, List.map_nil]); first | done | rfl | (simp only [List.length_drop, List.length_take]; rfl)) ?_; (with_reducible refine (impl_IsTurn.calls k _ _ l0_0 _ _ l0_1 _ _ l1 false _ ?side1 ?side2 ?side3 ?side4 ?side5 ?side6 A3.out).mono ?_); (case side1 => repeat (first | exact (Kd.C_below HR0_0.out HB.out) | (with_reducible refine Kd.C_alloc ?_ _) | (with_reducible refine Kd.C_drewN ?_ _) | (with_reducible refine Kd.C_drew ?_))); (case side2 => exact HC0_0.out); (case side3 => repeat (first | exact (Kd.C_below HR0_1.out HB.out) | (with_reducible refine Kd.C_alloc ?_ _) | (with_reducible refine Kd.C_drewN ?_ _) | (with_reducible refine Kd.C_drew ?_))); (case side4 => exact HC0_1.out); (case side5 => repeat (first | exact (Kd.C_below HR1.out HB.out) | (with_reducible refine Kd.C_alloc ?_ _) | (with_reducible refine Kd.C_drewN ?_ _) | (with_reducible refine Kd.C_drew ?_))); (case side6 => exact HC1.out); rintro e w102 ⟨rfl, hb⟩; refine ⟨_, rfl, ?_⟩; have n0_ := Aside0.mk (blk_below (g := gb908) (o := .cells #[.slice A0_0 l0_0.length c0_0, .slice A0_1 l0_1.length c0_1] 34 (0, 0)) (by (with_reducible repeat (first | refine blk_drewN ?_ _ | refine blk_drew ?_ | refine blk_alloc ?_ _)); exact BK908.out) hb); have n1_ := Aside0.mk (below_step (by repeat (first | (with_reducible first | exact HB.out | apply below_alloc | apply pw_below_drewN | apply below_drew1 | refine below_set ?_ GE908.out) | exact HB.out)) hb); clear BK908; clear HB; have BK908 := n0_; have HB := n1_; clear n0_ n1_; (try clear hb); (try clear hb2); (try clear hk); (try clear hi)))
    go_ret2
    exact ⟨_, by first | rfl | (simp [errW_none, errW_some] <;> rfl) | (simp [*, errW_none, errW_some] <;> rfl), by first | exact Kd.R_nil _ _ _ _ _ | exact Kd.N_nil _ _ _ _ _ | exact Kd.V_nil _ _ _ _ _ | exact Kd.Q_nil _ _ _ _ _ | exact Kd.S_nil _ _ _ _ _, by repeat (first | (with_reducible first | exact HB.out | apply below_alloc | apply pw_below_drewN | apply below_drew1 | refine below_set ?_ GE908.out) | exact HB.out)⟩
end Go.Proofs.Ytlbcafniodfdgaa.A
end
section
namespace Go.Proofs.Ytlbcafniodfdgaa.A
open Go.RowKit Go.Proofs.YtlbcafniodfdgaaW.PrintWords Go.Proofs.YtlbcafniodfdgaaW.PrintLast Go.Proofs.YtlbcafniodfdgaaW.PrintMore
attribute [local go_sem] max2_int min2_int max_two min_two max_three min_three max_four min_four
set_option linter.unusedVariables false
set_option linter.unusedSimpArgs false
def impl_CountFixed.f (k : Nat) (l0_0 : List Int) (l0_1 : List Int) (l1 : List Int) : Option (Int) := (impl_FixedPoints.f k l0_0 l0_1 l1).bind fun bt949 => (if bt949.2 = true then (if 0 < (bt949.1.length : Int) then (if 1 < (bt949.1.length : Int) then (if 2 < (bt949.1.length : Int) then (if 3 < (bt949.1.length : Int) then (some (wrap64 ((wrap64 ((wrap64 ((rd bt949.1 0) + (rd bt949.1 1))) + (rd bt949.1 2))) + (rd bt949.1 3)))) else (none)) else (none)) else (none)) else (none)) else (some (-1)))
theorem impl_CountFixed.mono : ∀ a0 a1 a2 k, LeO (impl_CountFixed.f k a0 a1 a2) (impl_CountFixed.f (k + 1) a0 a1 a2) := by
  intro a0 a1 a2 k
  unfold impl_CountFixed.f
  repeat' first
      | (with_reducible exact impl_FixedPoints.mono _ _ _ _)
      | (with_reducible exact LeO.refl _)
      | (with_reducible exact LeO.none _)
      | (with_reducible refine LeO.ite ?_ ?_)
      | (with_reducible refine LeO.bind ?_ (fun _ => ?_))
      | exact impl_FixedPoints.mono _ _ _ _
      | exact LeO.none _
      | refine LeO.ite ?_ ?_
      | refine LeO.bind ?_ (fun _ => ?_)
set_option maxHeartbeats 8000000 in
set_option maxRecDepth 100000 in
theorem impl_CountFixed.calls (k : Nat) (A0_0 : Option Addr) (c0_0 : Nat) (l0_0 : List Int) (A0_1 : Option Addr) (c0_1 : Nat) (l0_1 : List Int) (A1 : Option Addr) (c1 : Nat) (l1 : List Int) (r : Int) (w : World) (hr0_0 : Kd.C (Kd.int .i64) w A0_0 l0_0.length l0_0) (hc0_0 : l0_0.length ≤ c0_0) (hr0_1 : Kd.C (Kd.int .i64) w A0_1 l0_1.length l0_1) (hc0_1 : l0_1.length ≤ c0_1) (hr1 : Kd.C (Kd.int .i64) w A1 l1.length l1) (hc1 : l1.length ≤ c1) (h : impl_CountFixed.f k l0_0 l0_1 l1 = some r) :
    Calls Try.prog 49 #[.agg #[.slice A0_0 l0_0.length c0_0, .slice A0_1 l0_1.length c0_1], .slice A1 l1.length c1] w fun e w' => e = .returned (.int .i64 r) ∧ Below w.heap.size w w' := by
  have hu34 := Try.underlying34
  have HR0_0 := Aside0.mk hr0_0
  have HC0_0 := Aside0.mk hc0_0
  clear hr0_0 hc0_0
  have HR0_1 := Aside0.mk hr0_1
  have HC0_1 := Aside0.mk hc0_1
  clear hr0_1 hc0_1
  have HR1 := Aside0.mk hr1
  have HC1 := Aside0.mk hc1
  clear hr1 hc1
  have HB := Aside0.mk (Below.refl w.heap.size w)
  have H : ((impl_FixedPoints.f k l0_0 l0_1 l1).bind fun bt949 => (if bt949.2 = true then (if 0 < (bt949.1.length : Int) then (if 1 < (bt949.1.length : Int) then (if 2 < (bt949.1.length : Int) then (if 3 < (bt949.1.length : Int) then (some (wrap64 ((wrap64 ((wrap64 ((rd bt949.1 0) + (rd bt949.1 1))) + (rd bt949.1 2))) + (rd bt949.1 3)))) else (none)) else (none)) else (none)) else (none)) else (some (-1)))) = some r := h
  clear h
  replace H := Option.bind_eq_some_iff.mp H
  obtain ⟨⟨t949, t952⟩, A30, H⟩ := H
  replace H : (if t952 = true then (if 0 < (t949.length : Int) then (if 1 < (t949.length : Int) then (if 2 < (t949.length : Int) then (if 3 < (t949.length : Int) then (some (wrap64 ((wrap64 ((wrap64 ((rd t949 0) + (rd t949 1))) + (rd t949 2))) + (rd t949 3)))) else (none)) else (none)) else (none)) else (none)) else (some (-1))) = some r := H
  have A3 := Aside0.mk A30
  clear A30
  by_cases c4 : t952 = true
  · subst c4
    have H1 : (if 0 < (t949.length : Int) then (if 1 < (t949.length : Int) then (if 2 < (t949.length : Int) then (if 3 < (t949.length : Int) then (some (wrap64 ((wrap64 ((wrap64 ((rd t949 0) + (rd t949 1))) + (rd t949 2))) + (rd t949 3)))) else (none)) else (none)) else (none)) else (none)) = some r := by rw [if_pos rfl] at H; exact H
    clear H
    have H := H1
    clear H1
    by_cases c5 : 0 < (t949.length : Int)
    · rw [if_pos c5] at H
      have c5b0 : decide (0 < (t949.length : Int)) = true := decide_eq_true c5
      have c5b1 : decide (0 < t949.length) = true := decide_eq_true (by omega)
      clear c5
      by_cases c6 : 1 < (t949.length : Int)
      · rw [if_pos c6] at H
        have c6b0 : decide (1 < (t949.length : Int)) = true := decide_eq_true c6
        have c6b1 : decide (1 < t949.length) = true := decide_eq_true (by omega)
        clear c6
        by_cases c7 : 2 < (t949.length : Int)
        · rw [if_pos c7] at H
          have c7b0 : decide (2 < (t949.length : Int)) = true := decide_eq_true c7
          have c7b1 : decide (2 < t949.length) = true := decide_eq_true (by omega)
          clear c7
          by_cases c8 : 3 < (t949.length : Int)
          · rw [if_pos c8] at H
            have c8b0 : decide (3 < (t949.length : Int)) = true := decide_eq_true c8
            have c8b1 : decide (3 < t949.length) = true := decide_eq_true (by omega)
            clear c8
            obtain rfl := Option.some.inj H
            go_enter Try.func49, Try.ntmps49
            go_wp2_with (first | ((with_reducible refine gate_dst (N := 2) rfl ?_); refine box_event ?hg (N := 2) ?hd (cs := #[.slice A0_0 l0_0.length c0_0, .slice A0_1 l0_1.length c0_1]) (t := 34) ?hr ?_; (case hd => rfl); (case hg => rfl); (case hr => first | (go_simp; done) | (go_simp; rfl)); intro gb948 hg w9 hbox hb; have n0_ := Aside0.mk (below_step (by repeat (first | (with_reducible first | exact HB.out | apply below_alloc | apply pw_below_drewN | apply below_drew1) | exact HB.out)) hb); have n1_ := Aside0.mk (hbox); have n2_ := Aside0.mk ((by rw [hg]; exact (below_size (by repeat (first | (with_reducible first | exact HB.out | apply below_alloc | apply pw_below_drewN | apply below_drew1) | exact HB.out))) : w.heap.size ≤ gb948)); have n3_ := Aside0.mk ((by rw [hg]; exact (below_size (by repeat (first | (with_reducible first | exact HB.out | apply below_alloc | apply pw_below_drewN | apply below_drew1) | exact HB.out))) : w.heap.size ≤ gb948)); clear HB; have HB := n0_; have BK948 := n1_; have GW948 := n2_; have GE948 := n3_; clear n0_ n1_ n2_ n3_; clear hb hbox hg; have hcz10_0 : w9.cell? ⟨gb948, 0, none⟩ = some (.slice A0_0 l0_0.length c0_0) := (blk_cell BK948.out 0).trans rfl; have hcz10_1 : w9.cell? ⟨gb948, 1, none⟩ = some (.slice A0_1 l0_1.length c0_1) := (blk_cell BK948.out 1).trans rfl; have hfz10_0 := blk_frozen BK948.out 0; have hfz10_1 := blk_frozen BK948.out 1) | (go_at_call 51; (with_reducible refine (impl_FixedPoints.calls k _ _ l0_0 _ _ l0_1 _ _ l1 t949 true _ ?side1 ?side2 ?side3 ?side4 ?side5 ?side6 A3.out).mono ?_); (case side1 => repeat (first | exact (Kd.C_below HR0_0.out HB.out) | (with_reducible refine Kd.C_alloc ?_ _) | (with_reducible refine Kd.C_drewN ?_ _) | (with_reducible refine Kd.C_drew ?_))); (case side2 => exact HC0_0.out); (case side3 => repeat (first | exact (Kd.C_below HR0_1.out HB.out) | (with_reducible refine Kd.C_alloc ?_ _) | (with_reducible refine Kd.C_drewN ?_ _) | (with_reducible refine Kd.C_drew ?_))); (case side4 => exact HC0_1.out); (case side5 => repeat (first | exact (Kd.C_below HR1.out HB.out) | (with_reducible refine Kd.C_alloc ?_ _) | (with_reducible refine Kd.C_drewN ?_ _) | (with_reducible refine Kd.C_drew ?_))); (case side6 => exact HC1.out); rintro e w11 ⟨v950, rfl, ho0, hb⟩; have n0_ := Aside0.mk (Kd.R_lower ho0 (below_size (by repeat (first | (with_reducible first | exact HB.out | apply below_alloc | apply pw_below_drewN | apply below_drew1 | refine below_set ?_ GE948.out) | exact HB.out)))); have n1_ := Aside0.mk (blk_below (g := gb948) (o := .cells #[.slice A0_0 l0_0.length c0_0, .slice A0_1 l0_1.length c0_1] 34 (0, 0)) (by (with_reducible repeat (first | refine blk_drewN ?_ _ | refine blk_drew ?_ | refine blk_alloc ?_ _)); exact BK948.out) hb); have n2_ := Aside0.mk (below_step (by repeat (first | (with_reducible first | exact HB.out | apply below_alloc | apply pw_below_drewN | apply below_drew1 | refine below_set ?_ GE948.out) | exact HB.out)) hb); clear BK948; clear HB; have HO951 := n0_; have BK948 := n1_; have HB := n2_; clear n0_ n1_ n2_; (try clear hb); (try clear hb2); (try clear hk); (try clear hi); (try clear ho0); obtain ⟨Ao12, co12, eo12⟩ := Kd.R_slice HO951.out; subst eo12; have p953 : 0 ≤ (0 : Int) := (by omega); have q953 : 0 < (t949.length : Int) := of_decide_eq_true (by first | (with_reducible assumption) | assumption); obtain ⟨ad953, e953, hx953_0⟩ := Kd.at_int (Kd.R_reads' HO951.out).2.2 0 p953 q953; cases e953; have qi953 : (0 < t949.length) = True := eq_true (by omega); (try rw [show ((0 : Int)).toNat = 0 from rfl] at hx953_0); (try rw [Addr.add_zero'] at hx953_0); replace p953 := eq_true p953; replace q953 := eq_true q953; have p954 : 0 ≤ (1 : Int) := (by omega); have q954 : 1 < (t949.length : Int) := of_decide_eq_true (by first | (with_reducible assumption) | assumption); obtain ⟨ad954, e954, hx954_0⟩ := Kd.at_int (Kd.R_reads' HO951.out).2.2 1 p954 q954; obtain rfl : ad953 = ad954 := (by injection e954); (try simp only [show (1 : Int).toNat = 1 from rfl, Nat.reduceMul, Nat.reduceEqDiff, Go.Addr.add, ↓reduceIte] at hx954_0); have qi954 : (1 < t949.length) = True := eq_true (by omega); (try rw [show ((1 : Int)).toNat = 1 from rfl] at hx954_0); replace p954 := eq_true p954; replace q954 := eq_true q954; have p955 : 0 ≤ (2 : Int) := (by omega); have q955 : 2 < (t949.length : Int) := of_decide_eq_true (by first | (with_reducible assumption) | assumption); obtain ⟨ad955, e955, hx955_0⟩ := Kd.at_int (Kd.R_reads' HO951.out).2.2 2 p955 q955; obtain rfl : ad953 = ad955 := (by injection e955); (try simp only [show (2 : Int).toNat = 2 from rfl, Nat.reduceMul, Nat.reduceEqDiff, Go.Addr.add, ↓reduceIte] at hx955_0); have qi955 : (2 < t949.length) = True := eq_true (by omega); (try rw [show ((2 : Int)).toNat = 2 from rfl] at hx955_0); replace p955 := eq_true p955; replace q955 := eq_true q955; have p956 : 0 ≤ (3 : Int) := (by omega); have q956 : 3 < (t949.length : Int) := of_decide_eq_true (by first | (with_reducible assumption) | assumption); obtain ⟨ad956, e956, hx956_0⟩ := Kd.at_int (Kd.R_reads' HO951.out).2.2 3 p956 q956; obtain rfl : ad953 = ad956 := (by injection e956); (try simp only [show (3 : Int).toNat = 3 from rfl, Nat.reduceMul, Nat.reduceEqDiff, Go.Addr.add, ↓reduceIte] at hx956_0); have qi956 : (3 < t949.length) = True := eq_true (by omega); (try rw [show ((3 : Int)).toNat = 3 from rfl] at hx956_0); replace p956 := eq_true p956; replace q956 := eq_true q956))
            repeat (go_quiet (first | ((with_reducible refine gate_dst (N := 2) rfl ?_); refine box_event ?hg (N := 2) ?hd (cs := #[.slice A0_0 l0_0.length c0_0, .slice A0_1 l0_1.length c0_1]) (t := 34) ?hr ?_; (case hd => rfl); (case hg => rfl); (case hr => first | (go_simp; done) | (go_simp; rfl)); intro gb948 hg w9 hbox hb; have n0_ := Aside0.mk (below_step (by repeat (first | (with_reducible first | exact HB.out | apply below_alloc | apply pw_below_drewN | apply below_drew1) | exact HB.out)) hb); have n1_ := Aside0.mk (hbox); have n2_ := Aside0.mk ((by rw [hg]; exact (below_size (by repeat (first | (with_reducible first | exact HB.out | apply below_alloc | apply pw_below_drewN | apply below_drew1) | exact HB.out))) : w.heap.size ≤ gb948)); have n3_ := Aside0.mk ((by rw [hg]; exact (below_size (by repeat (first | (with_reducible first | exact HB.out | apply below_alloc | apply pw_below_drewN | apply below_drew1) | exact HB.out))) : w.heap.size ≤ gb948)); clear HB; have HB := n0_; have BK948 := n1_; have GW948 := n2_; have GE948 := n3_; clear n0_ n1_ n2_ n3_; clear hb hbox hg; have hcz10_0 : w9.cell? ⟨gb948, 0, none⟩ = some (.slice A0_0 l0_0.length c0_0) := (blk_cell BK948.out 0).trans rfl; have hcz10_1 : w9.cell? ⟨gb948, 1, none⟩ = some (.slice A0_1 l0_1.length c0_1) := (blk_cell BK948.out 1).trans rfl; have hfz10_0 := blk_frozen BK948.out 0; have hfz10_1 := blk_frozen BK948.out 1) | (go_at_call 51; (with_reducible refine (impl_FixedPoints.calls k _ _ l0_0 _ _ l0_1 _ _ l1 t949 true _ ?side1 ?side2 ?side3 ?side4 ?side5 ?side6 A3.out).mono ?_); (case side1 => repeat (first | exact (Kd.C_below HR0_0.out HB.out) | (with_reducible refine Kd.C_alloc ?_ _) | (with_reducible refine Kd.C_drewN ?_ _) | (with_reducible refine Kd.C_drew ?_))); (case side2 => exact HC0_0.out); (case side3 => repeat (first | exact (Kd.C_below HR0_1.out HB.out) | (with_reducible refine Kd.C_alloc ?_ _) | (with_reducible refine Kd.C_drewN ?_ _) | (with_reducible refine Kd.C_drew ?_))); (case side4 => exact HC0_1.out); (case side5 => repeat (first | exact (Kd.C_below HR1.out HB.out) | (with_reducible refine Kd.C_alloc ?_ _) | (with_reducible refine Kd.C_drewN ?_ _) | (with_reducible refine Kd.C_drew ?_))); (case side6 => exact HC1.out); rintro e w11 ⟨v950, rfl, ho0, hb⟩; have n0_ := Aside0.mk (Kd.R_lower ho0 (below_size (by repeat (first | (with_reducible first | exact HB.out | apply below_alloc | apply pw_below_drewN | apply below_drew1 | refine below_set ?_ GE948.out) | exact HB.out)))); have n1_ := Aside0.mk (blk_below (g := gb948) (o := .cells #[.slice A0_0 l0_0.length c0_0, .slice A0_1 l0_1.length c0_1] 34 (0, 0)) (by (with_reducible repeat (first | refine blk_drewN ?_ _ | refine blk_drew ?_ | refine blk_alloc ?_ _)); exact BK948.out) hb); have n2_ := Aside0.mk (below_step (by repeat (first | (with_reducible first | exact HB.out | apply below_alloc | apply pw_below_drewN | apply below_drew1 | refine below_set ?_ GE948.out) | exact HB.out)) hb); clear BK948; clear HB; have HO951 := n0_; have BK948 := n1_; have HB := n2_; clear n0_ n1_ n2_; (try clear hb); (try clear hb2); (try clear hk); (try clear hi); (try clear ho0); obtain ⟨Ao12, co12, eo12⟩ := Kd.R_slice HO951.out; subst eo12; have p953 : 0 ≤ (0 : Int) := (by omega); have q953 : 0 < (t949.length : Int) := of_decide_eq_true (by first | (with_reducible assumption) | assumption); obtain ⟨ad953, e953, hx953_0⟩ := Kd.at_int (Kd.R_reads' HO951.out).2.2 0 p953 q953; cases e953; have qi953 : (0 < t949.length) = True := eq_true (by omega); (try rw [show ((0 : Int)).toNat = 0 from rfl] at hx953_0); (try rw [Addr.add_zero'] at hx953_0); replace p953 := eq_true p953; replace q953 := eq_true q953; have p954 : 0 ≤ (1 : Int) := (by omega); have q954 : 1 < (t949.length : Int) := of_decide_eq_true (by first | (with_reducible assumption) | assumption); obtain ⟨ad954, e954, hx954_0⟩ := Kd.at_int (Kd.R_reads' HO951.out).2.2 1 p954 q954; obtain rfl : ad953 = ad954 := (by injection e954); (try simp only [show (1 : Int).toNat = 1 from rfl, Nat.reduceMul, Nat.reduceEqDiff, Go.Addr.add, ↓reduceIte] at hx954_0); have qi954 : (1 < t949.length) = True := eq_true (by omega); (try rw [show ((1 : Int)).toNat = 1 from rfl] at hx954_0); replace p954 := eq_true p954; replace q954 := eq_true q954; have p955 : 0 ≤ (2 : Int) := (by omega); have q955 : 2 < (t949.length : Int) := of_decide_eq_true (by first | (with_reducible assumption) | assumption); obtain ⟨ad955, e955, hx955_0⟩ := Kd.at_int (Kd.R_reads' HO951.out).2.2 2 p955 q955; obtain rfl : ad953 = ad955 := (by injection e955); (try simp only [show (2 : Int).toNat = 2 from rfl, Nat.reduceMul, Nat.reduceEqDiff, Go.Addr.add, ↓reduceIte] at hx955_0); have qi955 : (2 < t949.length) = True := eq_true (by omega); (try rw [show ((2 : Int)).toNat = 2 from rfl] at hx955_0); replace p955 := eq_true p955; replace q955 := eq_true q955; have p956 : 0 ≤ (3 : Int) := (by omega); have q956 : 3 < (t949.length : Int) := of_decide_eq_true (by first | (with_reducible assumption) | assumption); obtain ⟨ad956, e956, hx956_0⟩ := Kd.at_int (Kd.R_reads' HO951.out).2.2 3 p956 q956; obtain rfl : ad953 = ad956 := (by injection e956); (try simp only [show (3 : Int).toNat = 3 from rfl, Nat.reduceMul, Nat.reduceEqDiff, Go.Addr.add, ↓reduceIte] at hx956_0); have qi956 : (3 < t949.length) = True := eq_true (by omega); (try rw [show ((3 : Int)).toNat = 3 from rfl] at hx956_0); replace p956 := eq_true p956; replace q956 := eq_true q956)); try go_wp2_with (first | ((with_reducible refine gate_dst (N := 2) rfl ?_); refine box_event ?hg (N := 2) ?hd (cs := #[.slice A0_0 l0_0.length c0_0, .slice A0_1 l0_1.length c0_1]) (t := 34) ?hr ?_; (case hd => rfl); (case hg => rfl); (case hr => first | (go_simp; done) | (go_simp; rfl)); intro gb948 hg w9 hbox hb; have n0_ := Aside0.mk (below_step (by repeat (first | (with_reducible first | exact HB.out | apply below_alloc | apply pw_below_drewN | apply below_drew1) | exact HB.out)) hb); have n1_ := Aside0.mk (hbox); have n2_ := Aside0.mk ((by rw [hg]; exact (below_size (by repeat (first | (with_reducible first | exact HB.out | apply below_alloc | apply pw_below_drewN | apply below_drew1) | exact HB.out))) : w.heap.size ≤ gb948)); have n3_ := Aside0.mk ((by rw [hg]; exact (below_size (by repeat (first | (with_reducible first | exact HB.out | apply below_alloc | apply pw_below_drewN | apply below_drew1) | exact HB.out))) : w.heap.size ≤ gb948)); clear HB; have HB := n0_; have BK948 := n1_; have GW948 := n2_; have GE948 := n3_; clear n0_ n1_ n2_ n3_; clear hb hbox hg; have hcz10_0 : w9.cell? ⟨gb948, 0, none⟩ = some (.slice A0_0 l0_0.length c0_0) := (blk_cell BK948.out 0).trans rfl; have hcz10_1 : w9.cell? ⟨gb948, 1, none⟩ = some (.slice A0_1 l0_1.length c0_1) := (blk_cell BK948.out 1).trans rfl; have hfz10_0 := blk_frozen BK948.out 0; have hfz10_1 := blk_frozen BK948.out 1) | (go_at_call 51; (with_reducible refine (impl_FixedPoints.calls k _ _ l0_0 _ _ l0_1 _ _ l1 t949 true _ ?side1 ?side2 ?side3 ?side4 ?side5 ?side6 A3.out).mono ?_); (case side1 => repeat (first | exact (Kd.C_below HR0_0.out HB.out) | (with_reducible refine Kd.C_alloc ?_ _) | (with_reducible refine Kd.C_drewN ?_ _) | (with_reducible refine Kd.C_drew ?_))); (case side2 => exact HC0_0.out); (case side3 => repeat (first | exact (Kd.C_below HR0_1.out HB.out) | (with_reducible refine Kd.C_alloc ?_ _) | (with_reducible refine Kd.C_drewN ?_ _) | (with_reducible refine Kd.C_drew ?_))); (case side4 => exact HC0_1.out); (case side5 => repeat (first | exact (Kd.C_below HR1.out HB.out) | (with_reducible refine Kd.C_alloc ?_ _) | (with_reducible refine Kd.C_drewN ?_ _) | (with_reducible refine Kd.C_drew ?_))); (case side6 => exact HC1.out); rintro e w11 ⟨v950, rfl, ho0, hb⟩; have n0_ := Aside0.mk (Kd.R_lower ho0 (below_size (by repeat (first | (with_reducible first | exact HB.out | apply below_alloc | apply pw_below_drewN | apply below_drew1 | refine below_set ?_ GE948.out) | exact HB.out)))); have n1_ := Aside0.mk (blk_below (g := gb948) (o := .cells #[.slice A0_0 l0_0.length c0_0, .slice A0_1 l0_1.length c0_1] 34 (0, 0)) (by (with_reducible repeat (first | refine blk_drewN ?_ _ | refine blk_drew ?_ | refine blk_alloc ?_ _)); exact BK948.out) hb); have n2_ := Aside0.mk (below_step (by repeat (first | (with_reducible first | exact HB.out | apply below_alloc | apply pw_below_drewN | apply below_drew1 | refine below_set ?_ GE948.out) | exact HB.out)) hb); clear BK948; clear HB; have HO951 := n0_; have BK948 := n1_; have HB := n2_; clear n0_ n1_ n2_; (try clear hb); (try clear hb2); (try clear hk); (try clear hi); (try clear ho0); obtain ⟨Ao12, co12, eo12⟩ := Kd.R_slice HO951.out; subst eo12; have p953 : 0 ≤ (0 : Int) := (by omega); have q953 : 0 < (t949.length : Int) := of_decide_eq_true (by first | (with_reducible assumption) | assumption); obtain ⟨ad953, e953, hx953_0⟩ := Kd.at_int (Kd.R_reads' HO951.out).2.2 0 p953 q953; cases e953; have qi953 : (0 < t949.length) = True := eq_true (by omega); (try rw [show ((0 : Int)).toNat = 0 from rfl] at hx953_0); (try rw [Addr.add_zero'] at hx953_0); replace p953 := eq_true p953; replace q953 := eq_true q953; have p954 : 0 ≤ (1 : Int) := (by omega); have q954 : 1 < (t949.length : Int) := of_decide_eq_true (by first | (with_reducible assumption) | assumption); obtain ⟨ad954, e954, hx954_0⟩ := Kd.at_int (Kd.R_reads' HO951.out).2.2 1 p954 q954; obtain rfl : ad953 = ad954 := (by injection e954); (try simp only [show (1 : Int).toNat = 1 from rfl, Nat.reduceMul, Nat.reduceEqDiff, Go.Addr.add, ↓reduceIte] at hx954_0); have qi954 : (1 < t949.length) = True := eq_true (by omega); (try rw [show ((1 : Int)).toNat = 1 from rfl] at hx954_0); replace p954 := eq_true p954; replace q954 := eq_true q954; have p955 : 0 ≤ (2 : Int) := (by omega); have q955 : 2 < (t949.length : Int) := of_decide_eq_true (by first | (with_reducible assumption) | assumption); obtain ⟨ad955, e955, hx955_0⟩ := Kd.at_int (Kd.R_reads' HO951.out).2.2 2 p955 q955; obtain rfl : ad953 = ad955 := (by injection e955); (try simp only [show (2 : Int).toNat = 2 from rfl, Nat.reduceMul, Nat.reduceEqDiff, Go.Addr.add, ↓reduceIte] at hx955_0); have qi955 : (2 < t949.length) = True := eq_true (by omega); (try rw [show ((2 : Int)).toNat = 2 from rfl] at hx955_0); replace p955 := eq_true p955; replace q955 := eq_true q955; have p956 : 0 ≤ (3 : Int) := (by omega); have q956 : 3 < (t949.length : Int) := of_decide_eq_true (by first | (with_reducible assumption) | assumption); obtain ⟨ad956, e956, hx956_0⟩ := Kd.at_int (Kd.R_reads' HO951.out).2.2 3 p956 q956; obtain rfl : ad953 = ad956 := (by injection e956); (try simp only [show (3 : Int).toNat = 3 from rfl, Nat.reduceMul, Nat.reduceEqDiff, Go.Addr.add, ↓reduceIte] at hx956_0); have qi956 : (3 < t949.length) = True := eq_true (by omega); (try rw [show ((3 : Int)).toNat = 3 from rfl] at hx956_0); replace p956 := eq_true p956; replace q956 := eq_true q956)))
            go_ret
            exact ⟨by first | rfl | (simp [errW_none, errW_some] <;> rfl) | (simp [*, errW_none, errW_some] <;> rfl), by repeat (first | (with_reducible first | exact HB.out | apply below_alloc | apply pw_below_drewN | apply below_drew1 | refine below_set ?_ GE948.out) | exact HB.out)⟩
          · rw [if_neg c8] at H
            exact absurd H (by simp)
        · rw [if_neg c7] at H
          exact absurd H (by simp)
      · rw [if_neg c6] at H
        exact absurd H (by simp)
    · rw [if_neg c5] at H
      exact absurd H (by simp)
  · replace c4 := Bool.eq_false_iff.mpr c4
    subst c4
    have H1 : (some (-1)) = some r := by rw [if_neg (show ¬ (false = true) by decide)] at H; exact H
    clear H
    have H := H1
    clear H1
    obtain rfl := Option.some.inj H
    go_enter Try.func49, Try.ntmps49
    go_wp2_with (first | ((with_reducible refine gate_dst (N := 2) rfl ?_); refine box_event ?hg (N := 2) ?hd (cs := #[.slice A0_0 l0_0.length c0_0, .slice A0_1 l0_1.length c0_1]) (t := 34) ?hr ?_; (case hd => rfl); (case hg => rfl); (case hr => first | (go_simp; done) | (go_simp; rfl)); intro gb948 hg w13 hbox hb; have n0_ := Aside0.mk (below_step (by repeat (first | (with_reducible first | exact HB.out | apply below_alloc | apply pw_below_drewN | apply below_drew1) | exact HB.out)) hb); have n1_ := Aside0.mk (hbox); have n2_ := Aside0.mk ((by rw [hg]; exact (below_size (by repeat (first | (with_reducible first | exact HB.out | apply below_alloc | apply pw_below_drewN | apply below_drew1) | exact HB.out))) : w.heap.size ≤ gb948)); have n3_ := Aside0.mk ((by rw [hg]; exact (below_size (by repeat (first | (with_reducible first | exact HB.out | apply below_alloc | apply pw_below_drewN | apply below_drew1) | exact HB.out))) : w.heap.size ≤ gb948)); clear HB; have HB := n0_; have BK948 := n1_; have GW948 := n2_; have GE948 := n3_; clear n0_ n1_ n2_ n3_; clear hb hbox hg; have hcz14_0 : w13.cell? ⟨gb948, 0, none⟩ = some (.slice A0_0 l0_0.length c0_0) := (blk_cell BK948.out 0).trans rfl; have hcz14_1 : w13.cell? ⟨gb948, 1, none⟩ = some (.slice A0_1 l0_1.length c0_1) := (blk_cell BK948.out 1).trans rfl; have hfz14_0 := blk_frozen BK948.out 0; have hfz14_1 := blk_frozen BK948.out 1) | (go_at_call 51; (with_reducible refine (impl_FixedPoints.calls k _ _ l0_0 _ _ l0_1 _ _ l1 t949 false _ ?side1 ?side2 ?side3 ?side4 ?side5 ?side6 A3.out).mono ?_); (case side1 => repeat (first | exact (Kd.C_below HR0_0.out HB.out) | (with_reducible refine Kd.C_alloc ?_ _) | (with_reducible refine Kd.C_drewN ?_ _) | (with_reducible refine Kd.C_drew ?_))); (case side2 => exact HC0_0.out); (case side3 => repeat (first | exact (Kd.C_below HR0_1.out HB.out) | (with_reducible refine Kd.C_alloc ?_ _) | (with_reducible refine Kd.C_drewN ?_ _) | (with_reducible refine Kd.C_drew ?_))); (case side4 => exact HC0_1.out); (case side5 => repeat (first | exact (Kd.C_below HR1.out HB.out) | (with_reducible refine Kd.C_alloc ?_ _) | (with_reducible refine Kd.C_drewN ?_ _) | (with_reducible refine Kd.C_drew ?_))); (case side6 => exact HC1.out); rintro e w15 ⟨v950, rfl, ho0, hb⟩; have n0_ := Aside0.mk (Kd.R_lower ho0 (below_size (by repeat (first | (with_reducible first | exact HB.out | apply below_alloc | apply pw_below_drewN | apply below_drew1 | refine below_set ?_ GE948.out) | exact HB.out)))); have n1_ := Aside0.mk (blk_below (g := gb948) (o := .cells #[.slice A0_0 l0_0.length c0_0, .slice A0_1 l0_1.length c0_1] 34 (0, 0)) (by (with_reducible repeat (first | refine blk_drewN ?_ _ | refine blk_drew ?_ | refine blk_alloc ?_ _)); exact BK948.out) hb); have n2_ := Aside0.mk (below_step (by repeat (first | (with_reducible first | exact HB.out | apply below_alloc | apply pw_below_drewN | apply below_drew1 | refine below_set ?_ GE948.out) | exact HB.out)) hb); clear BK948; clear HB; have HO951 := n0_; have BK948 := n1_; have HB := n2_; clear n0_ n1_ n2_; (try clear hb); (try clear hb2); (try clear hk); (try clear hi); (try clear ho0)))
    repeat (go_quiet (first | ((with_reducible refine gate_dst (N := 2) rfl ?_); refine box_event ?hg (N := 2) ?hd (cs := #[.slice A0_0 l0_0.length c0_0, .slice A0_1 l0_1.length c0_1]) (t := 34) ?hr ?_; (case hd => rfl); (case hg => rfl); (case hr => first | (go_simp; done) | (go_simp; rfl)); intro gb948 hg w13 hbox hb; have n0_ := Aside0.mk (below_step (by repeat (first | (with_reducible first | exact HB.out | apply below_alloc | apply pw_below_drewN | apply below_drew1) | exact HB.out)) hb); have n1_ := Aside0.mk (hbox); have n2_ := Aside0.mk ((by rw [hg]; exact (below_size (by repeat (first | (with_reducible first | exact HB.out | apply below_alloc | apply pw_below_drewN | apply below_drew1) | exact HB.out))) : w.heap.size ≤ gb948)); have n3_ := Aside0.mk ((by rw [hg]; exact (below_size (by repeat (first | (with_reducible first | exact HB.out | apply below_alloc | apply pw_below_drewN | apply below_drew1) | exact HB.out))) : w.heap.size ≤ gb948)); clear HB; have HB := n0_; have BK948 := n1_; have GW948 := n2_; have GE948 := n3_; clear n0_ n1_ n2_ n3_; clear hb hbox hg; have hcz14_0 : w13.cell? ⟨gb948, 0, none⟩ = some (.slice A0_0 l0_0.length c0_0) := (blk_cell BK948.out 0).trans rfl; have hcz14_1 : w13.cell? ⟨gb948, 1, none⟩ = some (.slice A0_1 l0_1.length c0_1) := (blk_cell BK948.out 1).trans rfl; have hfz14_0 := blk_frozen BK948.out 0; have hfz14_1 := blk_frozen BK948.out 1) | (go_at_call 51; (with_reducible refine (impl_FixedPoints.calls k _ _ l0_0 _ _ l0_1 _ _ l1 t949 false _ ?side1 ?side2 ?side3 ?side4 ?side5 ?side6 A3.out).mono ?_); (case side1 => repeat (first | exact (Kd.C_below HR0_0.out HB.out) | (with_reducible refine Kd.C_alloc ?_ _) | (with_reducible refine Kd.C_drewN ?_ _) | (with_reducible refine Kd.C_drew ?_))); (case side2 => exact HC0_0.out); (case side3 => repeat (first | exact (Kd.C_below HR0_1.out HB.out) | (with_reducible refine Kd.C_alloc ?_ _) | (with_reducible refine Kd.C_drewN ?_ _) | (with_reducible refine Kd.C_drew ?_))); (case side4 => exact HC0_1.out); (case side5 => repeat (first | exact (Kd.C_below HR1.out HB.out) | (with_reducible refine Kd.C_alloc ?_ _) | (with_reducible refine Kd.C_drewN ?_ _) | (with_reducible refine Kd.C_drew ?_))); (case side6 => exact HC1.out); rintro e w15 ⟨v950, rfl, ho0, hb⟩; have n0_ := Aside0.mk (Kd.R_lower ho0 (below_size (by repeat (first | (with_reducible first | exact HB.out | apply below_alloc | apply pw_below_drewN | apply below_drew1 | refine below_set ?_ GE948.out) | exact HB.out)))); have n1_ := Aside0.mk (blk_below (g := gb948) (o := .cells #[.slice A0_0 l0_0.length c0_0, .slice A0_1 l0_1.length c0_1] 34 (0, 0)) (by (with_reducible repeat (first | refine blk_drewN ?_ _ | refine blk_drew ?_ | refine blk_alloc ?_ _)); exact BK948.out) hb); have n2_ := Aside0.mk (below_step (by repeat (first | (with_reducible first | exact HB.out | apply below_alloc | apply pw_below_drewN | apply below_drew1 | refine below_set ?_ GE948.out) | exact HB.out)) hb); clear BK948; clear HB; have HO951 := n0_; have BK948 := n1_; have HB := n2_; clear n0_ n1_ n2_; (try clear hb); (try clear hb2); (try clear hk); (try clear hi); (try clear ho0))); try go_wp2_with (first | ((with_reducible refine gate_dst (N := 2) rfl ?_); refine box_event ?hg (N := 2) ?hd (cs := #[.slice A0_0 l0_0.length c0_0, .slice A0_1 l0_1.length c0_1]) (t := 34) ?hr ?_; (case hd => rfl); (case hg => rfl); (case hr => first | (go_simp; done) | (go_simp; rfl)); intro gb948 hg w13 hbox hb; have n0_ := Aside0.mk (below_step (by repeat (first | (with_reducible first | exact HB.out | apply below_alloc | apply pw_below_drewN | apply below_drew1) | exact HB.out)) hb); have n1_ := Aside0.mk (hbox); have n2_ := Aside0.mk ((by rw [hg]; exact (below_size (by repeat (first | (with_reducible first | exact HB.out | apply below_alloc | apply pw_below_drewN | apply below_drew1) | exact HB.out))) : w.heap.size ≤ gb948)); have n3_ := Aside0.mk ((by rw [hg]; exact (below_size (by repeat (first | (with_reducible first | exact HB.out | apply below_alloc | apply pw_below_drewN | apply below_drew1) | exact HB.out))) : w.heap.size ≤ gb948)); clear HB; have HB := n0_; have BK948 := n1_; have GW948 := n2_; have GE948 := n3_; clear n0_ n1_ n2_ n3_; clear hb hbox hg; have hcz14_0 : w13.cell? ⟨gb948, 0, none⟩ = some (.slice A0_0 l0_0.length c0_0) := (blk_cell BK948.out 0).trans rfl; have hcz14_1 : w13.cell? ⟨gb948, 1, none⟩ = some (.slice A0_1 l0_1.length c0_1) := (blk_cell BK948.out 1).trans rfl; have hfz14_0 := blk_frozen BK948.out 0; have hfz14_1 := blk_frozen BK948.out 1) | (go_at_call 51; (with_reducible refine (impl_FixedPoints.calls k _ _ l0_0 _ _ l0_1 _ _ l1 t949 false _ ?side1 ?side2 ?side3 ?side4 ?side5 ?side6 A3.out).mono ?_); (case side1 => repeat (first | exact (Kd.C_below HR0_0.out HB.out) | (with_reducible refine Kd.C_alloc ?_ _) | (with_reducible refine Kd.C_drewN ?_ _) | (with_reducible refine Kd.C_drew ?_))); (case side2 => exact HC0_0.out); (case side3 => repeat (first | exact (Kd.C_below HR0_1.out HB.out) | (with_reducible refine Kd.C_alloc ?_ _) | (with_reducible refine Kd.C_drewN ?_ _) | (with_reducible refine Kd.C_drew ?_))); (case side4 => exact HC0_1.out); (case side5 => repeat (first | exact (Kd.C_below HR1.out HB.out) | (with_reducible refine Kd.C_alloc ?_ _) | (with_reducible refine Kd.C_drewN ?_ _) | (with_reducible refine Kd.C_drew ?_))); (case side6 => exact HC1.out); rintro e w15 ⟨v950, rfl, ho0, hb⟩; have n0_ := Aside0.mk (Kd.R_lower ho0 (below_size (by repeat (first | (with_reducible first | exact HB.out | apply below_alloc | apply pw_below_drewN | apply below_drew1 | refine below_set ?_ GE948.out) | exact HB.out)))); have n1_ := Aside0.mk (blk_below (g := gb948) (o := .cells #[.slice A0_0 l0_0.length c0_0, .slice A0_1 l0_1.length c0_1] 34 (0, 0)) (by (with_reducible repeat (first | refine blk_drewN ?_ _ | refine blk_drew ?_ | refine blk_alloc ?_ _)); exact BK948.out) hb); have n2_ := Aside0.mk (below_step (by repeat (first | (with_reducible first | exact HB.out | apply below_alloc | apply pw_below_drewN | apply below_drew1 | refine below_set ?_ GE948.out) | exact HB.out)) hb); clear BK948; clear HB; have HO951 := n0_; have BK948 := n1_; have HB := n2_; clear n0_ n1_ n2_; (try clear hb); (try clear hb2); (try clear hk); (try clear hi); (try clear ho0))))
    go_ret
    exact ⟨by first | rfl | (simp [errW_none, errW_some] <;> rfl) | (simp [*, errW_none, errW_some] <;> rfl), by repeat (first | (with_reducible first | exact HB.out | apply below_alloc | apply pw_below_drewN | apply below_drew1 | refine below_set ?_ GE948.out) | exact HB.out)⟩
end Go.Proofs.Ytlbcafniodfdgaa.A
end
section
namespace Go.Proofs.Ytlbcafniodfdgaa.A
open Go.RowKit Go.Proofs.YtlbcafniodfdgaaW.PrintWords Go.Proofs.YtlbcafniodfdgaaW.PrintLast Go.Proofs.YtlbcafniodfdgaaW.PrintMore
attribute [local go_sem] max2_int min2_int max_two min_two max_three min_three max_four min_four
set_option linter.unusedVariables false
set_option linter.unusedSimpArgs false
def impl_CountSquares.f (k : Nat) (l0_0 : List Int) (l0_1 : List Int) : Option (Int) := (impl_SurfaceOk.f k l0_0 l0_1).bind fun t1075 => (if t1075 = true then (some (l0_0.length : Int)) else (some 0))
theorem impl_CountSquares.mono : ∀ a0 a1 k, LeO (impl_CountSquares.f k a0 a1) (impl_CountSquares.f (k + 1) a0 a1) := by
  intro a0 a1 k
  unfold impl_CountSquares.f
  repeat' first
      | (with_reducible exact impl_SurfaceOk.mono _ _ _)
      | (with_reducible exact LeO.refl _)
      | (with_reducible exact LeO.none _)
      | (with_reducible refine LeO.ite ?_ ?_)
      | (with_reducible refine LeO.bind ?_ (fun _ => ?_))
      | exact impl_SurfaceOk.mono _ _ _
      | exact LeO.none _
      | refine LeO.ite ?_ ?_
      | refine LeO.bind ?_ (fun _ => ?_)
set_option maxHeartbeats 8000000 in
set_option maxRecDepth 100000 in
theorem impl_CountSquares.calls (k : Nat) (A0_0 : Option Addr) (c0_0 : Nat) (l0_0 : List Int) (A0_1 : Option Addr) (c0_1 : Nat) (l0_1 : List Int) (r : Int) (w : World) (hr0_0 : Kd.C (Kd.int .i64) w A0_0 l0_0.length l0_0) (hc0_0 : l0_0.length ≤ c0_0) (hr0_1 : Kd.C (Kd.int .i64) w A0_1 l0_1.length l0_1) (hc0_1 : l0_1.length ≤ c0_1) (h : impl_CountSquares.f k l0_0 l0_1 = some r) :
    Calls Try.prog 104 #[.agg #[.slice A0_0 l0_0.length c0_0, .slice A0_1 l0_1.length c0_1]] w fun e w' => e = .returned (.int .i64 r) ∧ Below w.heap.size w w' := by
  have hu34 := Try.underlying34
  have HR0_0 := Aside0.mk hr0_0
  have HC0_0 := Aside0.mk hc0_0
  clear hr0_0 hc0_0
  have HR0_1 := Aside0.mk hr0_1
  have HC0_1 := Aside0.mk hc0_1
  clear hr0_1 hc0_1
  have HB := Aside0.mk (Below.refl w.heap.size w)
  have H : ((impl_SurfaceOk.f k l0_0 l0_1).bind fun t1075 => (if t1075 = true then (some (l0_0.length : Int)) else (some 0))) = some r := h
  clear h
  replace H := Option.bind_eq_some_iff.mp H
  obtain ⟨t1075, A20, H⟩ := H
  replace H : (if t1075 = true then (some (l0_0.length : Int)) else (some 0)) = some r := H
  have A2 := Aside0.mk A20
  clear A20
  by_cases c3 : t1075 = true
  · subst c3
    have H1 : (some (l0_0.length : Int)) = some r := by rw [if_pos rfl] at H; exact H
    clear H
    have H := H1
    clear H1
    obtain rfl := Option.some.inj H
    go_enter Try.func104, Try.ntmps104
    go_wp2_with (first | ((with_reducible refine gate_dst (N := 1) rfl ?_); refine box_event ?hg (N := 1) ?hd (cs := #[.slice A0_0 l0_0.length c0_0, .slice A0_1 l0_1.length c0_1]) (t := 34) ?hr ?_; (case hd => rfl); (case hg => rfl); (case hr => first | (go_simp; done) | (go_simp; rfl)); intro gb1074 hg w4 hbox hb; have n0_ := Aside0.mk (below_step (by repeat (first | (with_reducible first | exact HB.out | apply below_alloc | apply pw_below_drewN | apply below_drew1) | exact HB.out)) hb); have n1_ := Aside0.mk (hbox); have n2_ := Aside0.mk ((by rw [hg]; exact (below_size (by repeat (first | (with_reducible first | exact HB.out | apply below_alloc | apply pw_below_drewN | apply below_drew1) | exact HB.out))) : w.heap.size ≤ gb1074)); have n3_ := Aside0.mk ((by rw [hg]; exact (below_size (by repeat (first | (with_reducible first | exact HB.out | apply below_alloc | apply pw_below_drewN | apply below_drew1) | exact HB.out))) : w.heap.size ≤ gb1074)); clear HB; have HB := n0_; have BK1074 := n1_; have GW1074 := n2_; have GE1074 := n3_; clear n0_ n1_ n2_ n3_; clear hb hbox hg; have hcz5_0 : w4.cell? ⟨gb1074, 0, none⟩ = some (.slice A0_0 l0_0.length c0_0) := (blk_cell BK1074.out 0).trans rfl; have hcz5_1 : w4.cell? ⟨gb1074, 1, none⟩ = some (.slice A0_1 l0_1.length c0_1) := (blk_cell BK1074.out 1).trans rfl; have hfz5_0 := blk_frozen BK1074.out 0; have hfz5_1 := blk_frozen BK1074.out 1) | ((with_reducible refine gate_callee (f := 61) rfl ?_); refine goesL_ (some 4) rfl rfl Try.func61 (by kernel_rfl) rfl #[.agg #[.slice A0_0 l0_0.length c0_0, .slice A0_1 l0_1.length c0_1]] rfl (by (try simp only [List.map_toArray, List.map_cons, List.map_nil]); first | done | rfl | (simp only [List.length_drop, List.length_take]; rfl)) ?_; (with_reducible refine (impl_SurfaceOk.calls k _ _ l0_0 _ _ l0_1 true _ ?side1 ?side2 ?side3 ?side4 A2.out).mono ?_); (case side1 => repeat (first | exact (Kd.C_below HR0_0.out HB.out) | (with_reducible refine Kd.C_alloc ?_ _) | (with_reducible refine Kd.C_drewN ?_ _) | (with_reducible refine Kd.C_drew ?_))); (case side2 => exact HC0_0.out); (case side3 => repeat (first | exact (Kd.C_below HR0_1.out HB.out) | (with_reducible refine Kd.C_alloc ?_ _) | (with_reducible refine Kd.C_drewN ?_ _) | (with_reducible refine Kd.C_drew ?_))); (case side4 => exact HC0_1.out); rintro e w6 ⟨rfl, hb⟩; refine ⟨_, rfl, ?_⟩; have n0_ := Aside0.mk (blk_below (g := gb1074) (o := .cells #[.slice A0_0 l0_0.length c0_0, .slice A0_1 l0_1.length c0_1] 34 (0, 0)) (by (with_reducible repeat (first | refine blk_drewN ?_ _ | refine blk_drew ?_ | refine blk_alloc ?_ _)); exact BK1074.out) hb); have n1_ := Aside0.mk (below_step (by repeat (first | (with_reducible first | exact HB.out | apply below_alloc | apply pw_below_drewN | apply below_drew1 | refine below_set ?_ GE1074.out) | exact HB.out)) hb); clear BK1074; clear HB; have BK1074 := n0_; have HB := n1_; clear n0_ n1_; (try clear hb); (try clear hb2); (try clear hk); (try clear hi); have hcz7_0 : w6.cell? ⟨gb1074, 0, none⟩ = some (.slice A0_0 l0_0.length c0_0) := (blk_cell BK1074.out 0).trans rfl; have hcz7_1 : w6.cell? ⟨gb1074, 1, none⟩ = some (.slice A0_1 l0_1.length c0_1) := (blk_cell BK1074.out 1).trans rfl; have hfz7_0 := blk_frozen BK1074.out 0; have hfz7_1 := blk_frozen BK1074.out 1))
    go_ret
    exact ⟨by first | rfl | (simp [errW_none, errW_some] <;> rfl) | (simp [*, errW_none, errW_some] <;> rfl), by repeat (first | (with_reducible first | exact HB.out | apply below_alloc | apply pw_below_drewN | apply below_drew1 | refine below_set ?_ GE1074.out) | exact HB.out)⟩
  · replace c3 := Bool.eq_false_iff.mpr c3
    subst c3
    have H1 : (some 0) = some r := by rw [if_neg (show ¬ (false = true) by decide)] at H; exact H
    clear H
    have H := H1
    clear H1
    obtain rfl := Option.some.inj H
    go_enter Try.func104, Try.ntmps104
    go_wp2_with (first | ((with_reducible refine gate_dst (N := 1) rfl ?_); refine box_event ?hg (N := 1) ?hd (cs := #[.slice A0_0 l0_0.length c0_0, .slice A0_1 l0_1.length c0_1]) (t := 34) ?hr ?_; (case hd => rfl); (case hg => rfl); (case hr => first | (go_simp; done) | (go_simp; rfl)); intro gb1074 hg w8 hbox hb; have n0_ := Aside0.mk (below_step (by repeat (first | (with_reducible first | exact HB.out | apply below_alloc | apply pw_below_drewN | apply below_drew1) | exact HB.out)) hb); have n1_ := Aside0.mk (hbox); have n2_ := Aside0.mk ((by rw [hg]; exact (below_size (by repeat (first | (with_reducible first | exact HB.out | apply below_alloc | apply pw_below_drewN | apply below_drew1) | exact HB.out))) : w.heap.size ≤ gb1074)); have n3_ := Aside0.mk ((by rw [hg]; exact (below_size (by repeat (first | (with_reducible first | exact HB.out | apply below_alloc | apply pw_below_drewN | apply below_drew1) | exact HB.out))) : w.heap.size ≤ gb1074)); clear HB; have HB := n0_; have BK1074 := n1_; have GW1074 := n2_; have GE1074 := n3_; clear n0_ n1_ n2_ n3_; clear hb hbox hg; have hcz9_0 : w8.cell? ⟨gb1074, 0, none⟩ = some (.slice A0_0 l0_0.length c0_0) := (blk_cell BK1074.out 0).trans rfl; have hcz9_1 : w8.cell? ⟨gb1074, 1, none⟩ = some (.slice A0_1 l0_1.length c0_1) := (blk_cell BK1074.out 1).trans rfl; have hfz9_0 := blk_frozen BK1074.out 0; have hfz9_1 := blk_frozen BK1074.out 1) | ((with_reducible refine gate_callee (f := 61) rfl ?_); refine goesL_ (some 4) rfl rfl Try.func61 (by kernel_rfl) rfl #[.agg #[.slice A0_0 l0_0.length c0_0, .slice A0_1 l0_1.length c0_1]] rfl (by (try simp only [List.map_toArray, List.map_cons, List.map_nil]); first | done | rfl | (simp only [List.length_drop, List.length_take]; rfl)) ?_; (with_reducible refine (impl_SurfaceOk.calls k _ _ l0_0 _ _ l0_1 false _ ?side1 ?side2 ?side3 ?side4 A2.out).mono ?_); (case side1 => repeat (first | exact (Kd.C_below HR0_0.out HB.out) | (with_reducible refine Kd.C_alloc ?_ _) | (with_reducible refine Kd.C_drewN ?_ _) | (with_reducible refine Kd.C_drew ?_))); (case side2 => exact HC0_0.out); (case side3 => repeat (first | exact (Kd.C_below HR0_1.out HB.out) | (with_reducible refine Kd.C_alloc ?_ _) | (with_reducible refine Kd.C_drewN ?_ _) | (with_reducible refine Kd.C_drew ?_))); (case side4 => exact HC0_1.out); rintro e w10 ⟨rfl, hb⟩; refine ⟨_, rfl, ?_⟩; have n0_ := Aside0.mk (blk_below (g := gb1074) (o := .cells #[.slice A0_0 l0_0.length c0_0, .slice A0_1 l0_1.length c0_1] 34 (0, 0)) (by (with_reducible repeat (first | refine blk_drewN ?_ _ | refine blk_drew ?_ | refine blk_alloc ?_ _)); exact BK1074.out) hb); have n1_ := Aside0.mk (below_step (by repeat (first | (with_reducible first | exact HB.out | apply below_alloc | apply pw_below_drewN | apply below_drew1 | refine below_set ?_ GE1074.out) | exact HB.out)) hb); clear BK1074; clear HB; have BK1074 := n0_; have HB := n1_; clear n0_ n1_; (try clear hb); (try clear hb2); (try clear hk); (try clear hi)))
    go_ret
    exact ⟨by first | rfl | (simp [errW_none, errW_some] <;> rfl) | (simp [*, errW_none, errW_some] <;> rfl), by repeat (first | (with_reducible first | exact HB.out | apply below_alloc | apply pw_below_drewN | apply below_drew1 | refine below_set ?_ GE1074.out) | exact HB.out)⟩
end Go.Proofs.Ytlbcafniodfdgaa.A
end
section
namespace Go.Proofs.Ytlbcafniodfdgaa.A
open Go.RowKit Go.Proofs.YtlbcafniodfdgaaW.PrintWords Go.Proofs.YtlbcafniodfdgaaW.PrintLast Go.Proofs.YtlbcafniodfdgaaW.PrintMore
attribute [local go_sem] max2_int min2_int max_two min_two max_three min_three max_four min_four
set_option linter.unusedVariables false
set_option linter.unusedSimpArgs false
def impl_GenusOf.f (k : Nat) (l0_0 : List Int) (l0_1 : List Int) : Option (Int) := (impl_SurfaceOk.f k l0_0 l0_1).bind fun t1077 => (if t1077 = true then ((impl_CountSquares.f k l0_0 l0_1).bind fun t1078 => ((impl_CornersOf.f k l0_0 l0_1).bind fun t1079 => (some (wrap64 (1 + (wrap64 (Int.tdiv (wrap64 (t1078 - (t1079.length : Int))) 2))))))) else (some (-1)))
theorem impl_GenusOf.mono : ∀ a0 a1 k, LeO (impl_GenusOf.f k a0 a1) (impl_GenusOf.f (k + 1) a0 a1) := by
  intro a0 a1 k
  unfold impl_GenusOf.f
  repeat' first
      | (with_reducible exact impl_CornersOf.mono _ _ _)
      | (with_reducible exact impl_CountSquares.mono _ _ _)
      | (with_reducible exact impl_SurfaceOk.mono _ _ _)
      | (with_reducible exact LeO.refl _)
      | (with_reducible exact LeO.none _)
      | (with_reducible refine LeO.ite ?_ ?_)
      | (with_reducible refine LeO.bind ?_ (fun _ => ?_))
      | exact impl_CornersOf.mono _ _ _
      | exact impl_CountSquares.mono _ _ _
      | exact impl_SurfaceOk.mono _ _ _
      | exact LeO.none _
      | refine LeO.ite ?_ ?_
      | refine LeO.bind ?_ (fun _ => ?_)
def impl_GenusOf.T3 : Bool × List (List Nat × List Nat) := (true, [([], []), ([0], [0]), ([], []), ([2, 1], [2]), ([3], [3]), ([1, 4], [1, 4]), ([5], [5]), ([6], [6]), ([7, 3, 0, 1, 2, 3, 4, 5, 6, 7], [7])])
def impl_GenusOf.B3 : List Nat := [0, 1, 0, 7, 15, 31, 63, 127, 255]
theorem impl_GenusOf.tab3 : rtab .any (opsOf Try.f91 3) = impl_GenusOf.T3 := by kernel_rfl
theorem impl_GenusOf.bits3 : waitsOk impl_GenusOf.T3.2 impl_GenusOf.B3 = true := by kernel_rfl
set_option maxHeartbeats 8000000 in
set_option maxRecDepth 100000 in
theorem impl_GenusOf.calls (k : Nat) (A0_0 : Option Addr) (c0_0 : Nat) (l0_0 : List Int) (A0_1 : Option Addr) (c0_1 : Nat) (l0_1 : List Int) (r : Int) (w : World) (hr0_0 : Kd.C (Kd.int .i64) w A0_0 l0_0.length l0_0) (hc0_0 : l0_0.length ≤ c0_0) (hr0_1 : Kd.C (Kd.int .i64) w A0_1 l0_1.length l0_1) (hc0_1 : l0_1.length ≤ c0_1) (h : impl_GenusOf.f k l0_0 l0_1 = some r) :
    Calls Try.prog 91 #[.agg #[.slice A0_0 l0_0.length c0_0, .slice A0_1 l0_1.length c0_1]] w fun e w' => e = .returned (.int .i64 r) ∧ Below w.heap.size w w' := by
  have hu34 := Try.underlying34
  have HR0_0 := Aside0.mk hr0_0
  have HC0_0 := Aside0.mk hc0_0
  clear hr0_0 hc0_0
  have HR0_1 := Aside0.mk hr0_1
  have HC0_1 := Aside0.mk hc0_1
  clear hr0_1 hc0_1
  have HB := Aside0.mk (Below.refl w.heap.size w)
  have H : ((impl_SurfaceOk.f k l0_0 l0_1).bind fun t1077 => (if t1077 = true then ((impl_CountSquares.f k l0_0 l0_1).bind fun t1078 => ((impl_CornersOf.f k l0_0 l0_1).bind fun t1079 => (some (wrap64 (1 + (wrap64 (Int.tdiv (wrap64 (t1078 - (t1079.length : Int))) 2))))))) else (some (-1)))) = some r := h
  clear h
  replace H := Option.bind_eq_some_iff.mp H
  obtain ⟨t1077, A20, H⟩ := H
  replace H : (if t1077 = true then ((impl_CountSquares.f k l0_0 l0_1).bind fun t1078 => ((impl_CornersOf.f k l0_0 l0_1).bind fun t1079 => (some (wrap64 (1 + (wrap64 (Int.tdiv (wrap64 (t1078 - (t1079.length : Int))) 2))))))) else (some (-1))) = some r := H
  have A2 := Aside0.mk A20
  clear A20
  by_cases c3 : t1077 = true
  · subst c3
    have H1 : ((impl_CountSquares.f k l0_0 l0_1).bind fun t1078 => ((impl_CornersOf.f k l0_0 l0_1).bind fun t1079 => (some (wrap64 (1 + (wrap64 (Int.tdiv (wrap64 (t1078 - (t1079.length : Int))) 2))))))) = some r := by rw [if_pos rfl] at H; exact H
    clear H
    have H := H1
    clear H1
    replace H := Option.bind_eq_some_iff.mp H
    obtain ⟨t1078, A40, H⟩ := H
    replace H : ((impl_CornersOf.f k l0_0 l0_1).bind fun t1079 => (some (wrap64 (1 + (wrap64 (Int.tdiv (wrap64 (t1078 - (t1079.length : Int))) 2)))))) = some r := H
    have A4 := Aside0.mk A40
    clear A40
    replace H := Option.bind_eq_some_iff.mp H
    obtain ⟨t1079, A50, H⟩ := H
    replace H : (some (wrap64 (1 + (wrap64 (Int.tdiv (wrap64 (t1078 - (t1079.length : Int))) 2))))) = some r := H
    have A5 := Aside0.mk A50
    clear A50
    obtain rfl := Option.some.inj H
    go_enter Try.func91, Try.ntmps91
    try go_wp2_with (first | ((with_reducible refine gate_dst (N := 1) rfl ?_); refine box_event ?hg (N := 1) ?hd (cs := #[.slice A0_0 l0_0.length c0_0, .slice A0_1 l0_1.length c0_1]) (t := 34) ?hr ?_; (case hd => rfl); (case hg => rfl); (case hr => first | (go_simp; done) | (go_simp; rfl)); intro gb1076 hg w6 hbox hb; have n0_ := Aside0.mk (below_step (by repeat (first | (with_reducible first | exact HB.out | apply below_alloc | apply pw_below_drewN | apply below_drew1) | exact HB.out)) hb); have n1_ := Aside0.mk (hbox); have n2_ := Aside0.mk ((by rw [hg]; exact (below_size (by repeat (first | (with_reducible first | exact HB.out | apply below_alloc | apply pw_below_drewN | apply below_drew1) | exact HB.out))) : w.heap.size ≤ gb1076)); have n3_ := Aside0.mk ((by rw [hg]; exact (below_size (by repeat (first | (with_reducible first | exact HB.out | apply below_alloc | apply pw_below_drewN | apply below_drew1) | exact HB.out))) : w.heap.size ≤ gb1076)); clear HB; have HB := n0_; have BK1076 := n1_; have GW1076 := n2_; have GE1076 := n3_; clear n0_ n1_ n2_ n3_; clear hb hbox hg; have hcz7_0 : w6.cell? ⟨gb1076, 0, none⟩ = some (.slice A0_0 l0_0.length c0_0) := (blk_cell BK1076.out 0).trans rfl; have hcz7_1 : w6.cell? ⟨gb1076, 1, none⟩ = some (.slice A0_1 l0_1.length c0_1) := (blk_cell BK1076.out 1).trans rfl; have hfz7_0 := blk_frozen BK1076.out 0; have hfz7_1 := blk_frozen BK1076.out 1) | ((with_reducible refine gate_callee (f := 61) rfl ?_); refine goesL_ (some 4) rfl rfl Try.func61 (by kernel_rfl) rfl #[.agg #[.slice A0_0 l0_0.length c0_0, .slice A0_1 l0_1.length c0_1]] rfl (by (try simp only [List.map_toArray, List.map_cons, List.map_nil]); first | done | rfl | (simp only [List.length_drop, List.length_take]; rfl)) ?_; (with_reducible refine (impl_SurfaceOk.calls k _ _ l0_0 _ _ l0_1 true _ ?side1 ?side2 ?side3 ?side4 A2.out).mono ?_); (case side1 => repeat (first | exact (Kd.C_below HR0_0.out HB.out) | (with_reducible refine Kd.C_alloc ?_ _) | (with_reducible refine Kd.C_drewN ?_ _) | (with_reducible refine Kd.C_drew ?_))); (case side2 => exact HC0_0.out); (case side3 => repeat (first | exact (Kd.C_below HR0_1.out HB.out) | (with_reducible refine Kd.C_alloc ?_ _) | (with_reducible refine Kd.C_drewN ?_ _) | (with_reducible refine Kd.C_drew ?_))); (case side4 => exact HC0_1.out); rintro e w8 ⟨rfl, hb⟩; refine ⟨_, rfl, ?_⟩; have n0_ := Aside0.mk (blk_below (g := gb1076) (o := .cells #[.slice A0_0 l0_0.length c0_0, .slice A0_1 l0_1.length c0_1] 34 (0, 0)) (by (with_reducible repeat (first | refine blk_drewN ?_ _ | refine blk_drew ?_ | refine blk_alloc ?_ _)); exact BK1076.out) hb); have n1_ := Aside0.mk (below_step (by repeat (first | (with_reducible first | exact HB.out | apply below_alloc | apply pw_below_drewN | apply below_drew1 | refine below_set ?_ GE1076.out) | exact HB.out)) hb); clear BK1076; clear HB; have BK1076 := n0_; have HB := n1_; clear n0_ n1_; (try clear hb); (try clear hb2); (try clear hk); (try clear hi)))
    have n0_ := Aside0.mk (blk_drew BK1076.out)
    have n1_ := Aside0.mk (below_drew1 HB.out)
    clear BK1076
    clear HB
    have BK1076 := n0_
    have HB := n1_
    clear n0_ n1_
    refine start_ (n := 9) (S := fun w' => w'.cell? ⟨gb1076, 0, none⟩ = some (.slice A0_0 l0_0.length c0_0) ∧ w'.cell? ⟨gb1076, 1, none⟩ = some (.slice A0_1 l0_1.length c0_1)) (ds := []) #[false, false, false, false, false, false, false, false, false] (by kernel_rfl) rfl rfl ⟨(blk_cell BK1076.out 0).trans rfl, (blk_cell BK1076.out 1).trans rfl⟩ (fun hHeld => ?_); refine with_tabW impl_GenusOf.tab3 impl_GenusOf.bits3 (fun HT_ HW_ => ?_)
    generalize w8.drew = w9 at BK1076 HB hHeld ⊢
    refine take_ (i := 0) (N := some 6) (v := ?_) (a' := ?_) #[true, false, false, false, false, false, false, false, false] rfl rfl (take_ofW HT_.out HW_.out (by kernel_rfl)) (fun _ _ _ h => h) (Or.inl ⟨by rfl, ?_⟩) hHeld ?_ ?_
    rotate_left
    · rintro w' ⟨s0, s1⟩
      go_simp
      with_reducible rfl
    rotate_left
    · simp only [Act.put, List.setIfInBounds_toArray, List.set_cons_zero, List.set_cons_succ, i64_w, i32_w]
      rfl
    refine take_ (i := 2) (N := some 8) (v := ?_) (a' := ?_) #[true, false, true, false, false, false, false, false, false] rfl rfl (take_ofW HT_.out HW_.out (by kernel_rfl)) (fun _ _ _ h => h) (Or.inl ⟨by rfl, ?_⟩) hHeld ?_ ?_
    rotate_left
    · rintro w' ⟨s0, s1⟩
      go_simp
      with_reducible rfl
    rotate_left
    · simp only [Act.put, List.setIfInBounds_toArray, List.set_cons_zero, List.set_cons_succ, i64_w, i32_w]
      rfl
    refine one_ (i := 1) (N := some 7) #[true, true, true, false, false, false, false, false, false] rfl rfl (one_of HT_.out (by kernel_rfl)) (by decide) (fun K hK => ?_)
    refine goes_ Try.func104 (by kernel_rfl) rfl #[.agg #[.slice A0_0 l0_0.length c0_0, .slice A0_1 l0_1.length c0_1]] (by rfl) rfl rfl (by (try simp only [List.map_toArray, List.map_cons, List.map_nil]); first | done | rfl | (simp only [List.length_drop, List.length_take]; rfl)) ?_
    with_reducible refine (impl_CountSquares.calls k _ _ l0_0 _ _ l0_1 t1078 _ ?side1 ?side2 ?side3 ?side4 A4.out).mono ?_
    (case side1 => repeat (first | exact (Kd.C_below HR0_0.out HB.out) | (with_reducible refine Kd.C_alloc ?_ _) | (with_reducible refine Kd.C_drewN ?_ _) | (with_reducible refine Kd.C_drew ?_)))
    (case side2 => exact HC0_0.out)
    (case side3 => repeat (first | exact (Kd.C_below HR0_1.out HB.out) | (with_reducible refine Kd.C_alloc ?_ _) | (with_reducible refine Kd.C_drewN ?_ _) | (with_reducible refine Kd.C_drew ?_)))
    (case side4 => exact HC0_1.out)
    rintro e w10 ⟨rfl, hb⟩
    refine ⟨_, rfl, ?_⟩
    have n0_ := Aside0.mk (blk_below (g := gb1076) (o := .cells #[.slice A0_0 l0_0.length c0_0, .slice A0_1 l0_1.length c0_1] 34 (0, 0)) (by (with_reducible repeat (first | refine blk_drewN ?_ _ | refine blk_drew ?_ | refine blk_alloc ?_ _)); exact BK1076.out) hb)
    have n1_ := Aside0.mk (below_step (by repeat (first | (with_reducible first | exact HB.out | apply below_alloc | apply pw_below_drewN | apply below_drew1 | refine below_set ?_ GE1076.out) | exact HB.out)) hb)
    clear BK1076
    clear HB
    have BK1076 := n0_
    have HB := n1_
    clear n0_ n1_
    (try clear hb)
    (try clear hb2)
    (try clear hk)
    (try clear hi)
    refine hK.out _ _ ⟨(blk_cell BK1076.out 0).trans rfl, (blk_cell BK1076.out 1).trans rfl⟩ (fun hHeld => ?_)
    clear hK K
    refine norm_ (a' := ?_) ?_ ?_
    rotate_left
    · show Act.put _ (some 7) _ = _
      simp only [Act.put, List.setIfInBounds_toArray, List.set_cons_zero, List.set_cons_succ, i64_w, i32_w]
      rfl
    refine one_ (i := 3) (N := some 9) #[true, true, true, true, false, false, false, false, false] rfl rfl (one_of HT_.out (by kernel_rfl)) (by decide) (fun K hK => ?_)
    refine goes_ Try.func86 (by kernel_rfl) rfl #[.agg #[.slice A0_0 l0_0.length c0_0, .slice A0_1 l0_1.length c0_1]] (by rfl) rfl rfl (by (try simp only [List.map_toArray, List.map_cons, List.map_nil]); first | done | rfl | (simp only [List.length_drop, List.length_take]; rfl)) ?_
    with_reducible refine (impl_CornersOf.calls k _ _ l0_0 _ _ l0_1 t1079 _ ?side1 ?side2 ?side3 ?side4 A5.out).mono ?_
    (case side1 => repeat (first | exact (Kd.C_below HR0_0.out HB.out) | (with_reducible refine Kd.C_alloc ?_ _) | (with_reducible refine Kd.C_drewN ?_ _) | (with_reducible refine Kd.C_drew ?_)))
    (case side2 => exact HC0_0.out)
    (case side3 => repeat (first | exact (Kd.C_below HR0_1.out HB.out) | (with_reducible refine Kd.C_alloc ?_ _) | (with_reducible refine Kd.C_drewN ?_ _) | (with_reducible refine Kd.C_drew ?_)))
    (case side4 => exact HC0_1.out)
    rintro e w11 ⟨v1080, rfl, ho0, hb⟩
    refine ⟨_, rfl, ?_⟩
    have n0_ := Aside0.mk (Kd.S_lower ho0 (below_size (by repeat (first | (with_reducible first | exact HB.out | apply below_alloc | apply pw_below_drewN | apply below_drew1 | refine below_set ?_ GE1076.out) | exact HB.out))))
    have n1_ := Aside0.mk (blk_below (g := gb1076) (o := .cells #[.slice A0_0 l0_0.length c0_0, .slice A0_1 l0_1.length c0_1] 34 (0, 0)) (by (with_reducible repeat (first | refine blk_drewN ?_ _ | refine blk_drew ?_ | refine blk_alloc ?_ _)); exact BK1076.out) hb)
    have n2_ := Aside0.mk (below_step (by repeat (first | (with_reducible first | exact HB.out | apply below_alloc | apply pw_below_drewN | apply below_drew1 | refine below_set ?_ GE1076.out) | exact HB.out)) hb)
    clear BK1076
    clear HB
    have HO1081 := n0_
    have BK1076 := n1_
    have HB := n2_
    clear n0_ n1_ n2_
    (try clear hb)
    (try clear hb2)
    (try clear hk)
    (try clear hi)
    (try clear ho0)
    obtain ⟨Ao12, co12, eo12⟩ := Kd.S_slice HO1081.out
    (first | subst eo12 | (injection eo12 with f1_ f2_ f3_; have f4_ := f1_.symm; have f5_ := f3_.symm; clear f1_ f2_ f3_; subst f4_; subst f5_))
    refine hK.out _ _ ⟨(blk_cell BK1076.out 0).trans rfl, (blk_cell BK1076.out 1).trans rfl⟩ (fun hHeld => ?_)
    clear hK K
    refine norm_ (a' := ?_) ?_ ?_
    rotate_left
    · show Act.put _ (some 9) _ = _
      simp only [Act.put, List.setIfInBounds_toArray, List.set_cons_zero, List.set_cons_succ, i64_w, i32_w]
      rfl
    refine pure_ (i := 4) (N := some 10) (v := ?_) (a' := ?_) #[true, true, true, true, true, false, false, false, false] rfl rfl (any_of HT_.out (by kernel_rfl)) (fun _ _ _ h => h) (Or.inl ⟨by rfl, ?_⟩) ?_ ?_
    rotate_left
    · intro w'
      go_simp
      with_reducible rfl
    rotate_left
    · simp only [Act.put, List.setIfInBounds_toArray, List.set_cons_zero, List.set_cons_succ, i64_w, i32_w]
      rfl
    refine pure_ (i := 5) (N := some 11) (v := ?_) (a' := ?_) #[true, true, true, true, true, true, false, false, false] rfl rfl (any_of HT_.out (by kernel_rfl)) (fun _ _ _ h => h) (Or.inl ⟨by rfl, ?_⟩) ?_ ?_
    rotate_left
    · intro w'
      go_simp
      with_reducible rfl
    rotate_left
    · simp only [Act.put, List.setIfInBounds_toArray, List.set_cons_zero, List.set_cons_succ, i64_w, i32_w]
      rfl
    refine pure_ (i := 6) (N := some 12) (v := ?_) (a' := ?_) #[true, true, true, true, true, true, true, false, false] rfl rfl (any_of HT_.out (by kernel_rfl)) (fun _ _ _ h => h) (Or.inl ⟨by rfl, ?_⟩) ?_ ?_
    rotate_left
    · intro w'
      go_simp
      with_reducible rfl
    rotate_left
    · simp only [Act.put, List.setIfInBounds_toArray, List.set_cons_zero, List.set_cons_succ, i64_w, i32_w]
      rfl
    refine pure_ (i := 7) (N := some 13) (v := ?_) (a' := ?_) #[true, true, true, true, true, true, true, true, false] rfl rfl (any_of HT_.out (by kernel_rfl)) (fun _ _ _ h => h) (Or.inl ⟨by rfl, ?_⟩) ?_ ?_
    rotate_left
    · intro w'
      go_simp
      with_reducible rfl
    rotate_left
    · simp only [Act.put, List.setIfInBounds_toArray, List.set_cons_zero, List.set_cons_succ, i64_w, i32_w]
      rfl
    refine pure_ (i := 8) (N := some 2) (v := ?_) (a' := ?_) #[true, true, true, true, true, true, true, true, true] rfl rfl (any_of HT_.out (by kernel_rfl)) (fun _ _ _ h => h) (Or.inl ⟨by rfl, ?_⟩) ?_ ?_
    rotate_left
    · intro w'
      go_simp
      with_reducible rfl
    rotate_left
    · simp only [Act.put, List.setIfInBounds_toArray, List.set_cons_zero, List.set_cons_succ, i64_w, i32_w]
      rfl
    refine done_ (done_of HT_.out (by kernel_rfl)) ?_
    try go_wp2
    go_ret
    exact ⟨by first | rfl | (simp [errW_none, errW_some] <;> rfl) | (simp [*, errW_none, errW_some] <;> rfl), by repeat (first | (with_reducible first | exact HB.out | apply below_alloc | apply pw_below_drewN | apply below_drew1 | refine below_set ?_ GE1076.out) | exact HB.out)⟩
  · replace c3 := Bool.eq_false_iff.mpr c3
    subst c3
    have H1 : (some (-1)) = some r := by rw [if_neg (show ¬ (false = true) by decide)] at H; exact H
    clear H
    have H := H1
    clear H1
    obtain rfl := Option.some.inj H
    go_enter Try.func91, Try.ntmps91
    go_wp2_with (first | ((with_reducible refine gate_dst (N := 1) rfl ?_); refine box_event ?hg (N := 1) ?hd (cs := #[.slice A0_0 l0_0.length c0_0, .slice A0_1 l0_1.length c0_1]) (t := 34) ?hr ?_; (case hd => rfl); (case hg => rfl); (case hr => first | (go_simp; done) | (go_simp; rfl)); intro gb1076 hg w13 hbox hb; have n0_ := Aside0.mk (below_step (by repeat (first | (with_reducible first | exact HB.out | apply below_alloc | apply pw_below_drewN | apply below_drew1) | exact HB.out)) hb); have n1_ := Aside0.mk (hbox); have n2_ := Aside0.mk ((by rw [hg]; exact (below_size (by repeat (first | (with_reducible first | exact HB.out | apply below_alloc | apply pw_below_drewN | apply below_drew1) | exact HB.out))) : w.heap.size ≤ gb1076)); have n3_ := Aside0.mk ((by rw [hg]; exact (below_size (by repeat (first | (with_reducible first | exact HB.out | apply below_alloc | apply pw_below_drewN | apply below_drew1) | exact HB.out))) : w.heap.size ≤ gb1076)); clear HB; have HB := n0_; have BK1076 := n1_; have GW1076 := n2_; have GE1076 := n3_; clear n0_ n1_ n2_ n3_; clear hb hbox hg; have hcz14_0 : w13.cell? ⟨gb1076, 0, none⟩ = some (.slice A0_0 l0_0.length c0_0) := (blk_cell BK1076.out 0).trans rfl; have hcz14_1 : w13.cell? ⟨gb1076, 1, none⟩ = some (.slice A0_1 l0_1.length c0_1) := (blk_cell BK1076.out 1).trans rfl; have hfz14_0 := blk_frozen BK1076.out 0; have hfz14_1 := blk_frozen BK1076.out 1) | ((with_reducible refine gate_callee (f := 61) rfl ?_); refine goesL_ (some 4) rfl rfl Try.func61 (by kernel_rfl) rfl #[.agg #[.slice A0_0 l0_0.length c0_0, .slice A0_1 l0_1.length c0_1]] rfl (by (try simp only [List.map_toArray, List.map_cons, List.map_nil]); first | done | rfl | (simp only [List.length_drop, List.length_take]; rfl)) ?_; (with_reducible refine (impl_SurfaceOk.calls k _ _ l0_0 _ _ l0_1 false _ ?side1 ?side2 ?side3 ?side4 A2.out).mono ?_); (case side1 => repeat (first | exact (Kd.C_below HR0_0.out HB.out) | (with_reducible refine Kd.C_alloc ?_ _) | (with_reducible refine Kd.C_drewN ?_ _) | (with_reducible refine Kd.C_drew ?_))); (case side2 => exact HC0_0.out); (case side3 => repeat (first | exact (Kd.C_below HR0_1.out HB.out) | (with_reducible refine Kd.C_alloc ?_ _) | (with_reducible refine Kd.C_drewN ?_ _) | (with_reducible refine Kd.C_drew ?_))); (case side4 => exact HC0_1.out); rintro e w15 ⟨rfl, hb⟩; refine ⟨_, rfl, ?_⟩; have n0_ := Aside0.mk (blk_below (g := gb1076) (o := .cells #[.slice A0_0 l0_0.length c0_0, .slice A0_1 l0_1.length c0_1] 34 (0, 0)) (by (with_reducible repeat (first | refine blk_drewN ?_ _ | refine blk_drew ?_ | refine blk_alloc ?_ _)); exact BK1076.out) hb); have n1_ := Aside0.mk (below_step (by repeat (first | (with_reducible first | exact HB.out | apply below_alloc | apply pw_below_drewN | apply below_drew1 | refine below_set ?_ GE1076.out) | exact HB.out)) hb); clear BK1076; clear HB; have BK1076 := n0_; have HB := n1_; clear n0_ n1_; (try clear hb); (try clear hb2); (try clear hk); (try clear hi)))
    go_ret
    exact ⟨by first | rfl | (simp [errW_none, errW_some] <;> rfl) | (simp [*, errW_none, errW_some] <;> rfl), by repeat (first | (with_reducible first | exact HB.out | apply below_alloc | apply pw_below_drewN | apply below_drew1 | refine below_set ?_ GE1076.out) | exact HB.out)⟩
end Go.Proofs.Ytlbcafniodfdgaa.A
end
