/- Lemmas for the row FnPaths: the program's functions told as plain functions, and plain mathematics. No conditions. -/
import Derived.Test.YtbdnellgioimbaaQFnPaths4
section
namespace Go.Proofs.Ytbdnellgioimbaa.A
open Go.RowKit Go.Proofs.YtbdnellgioimbaaW.PrintWords Go.Proofs.YtbdnellgioimbaaW.PrintLast Go.Proofs.YtbdnellgioimbaaW.PrintMore
attribute [local go_sem] max2_int min2_int max_two min_two max_three min_three max_four min_four
set_option linter.unusedVariables false
set_option linter.unusedSimpArgs false
mutual
def spec_PathSquares.l0 : Nat → ByteArray → List Int → Int → Int → List Int → List Int → Option (List Int × Bool)
  | 0, _, _, _, _, _, _ => none
  | k + 1, x10, x11, x12, x13, x1051000, x1051001 => if x13 > 0 then (spec_PathSquares.l1 k x10 x11 x12 x13 0 x1051000 x1051001) else (some (x11, true))
def spec_PathSquares.l1 : Nat → ByteArray → List Int → Int → Int → Int → List Int → List Int → Option (List Int × Bool)
  | 0, _, _, _, _, _, _, _ => none
  | k + 1, x10, x11, x12, x13, x14, x1051000, x1051001 => if x14 < (x10.size : Int) then (if x11.length < 17592186044416 then ((some (x11 ++ [x12] : List Int)).bind fun y1057 => (if 0 ≤ x14 then (if (bt x10 x14) = 114 then (if 0 ≤ x12 then (if x12 < (x1051000.length : Int) then (spec_PathSquares.l1 k x10 y1057 (rd x1051000 x12) x13 (wrap64 (x14 + 1)) x1051000 x1051001) else (none)) else (none)) else (if 0 ≤ x12 then (if x12 < (x1051001.length : Int) then (spec_PathSquares.l1 k x10 y1057 (rd x1051001 x12) x13 (wrap64 (x14 + 1)) x1051000 x1051001) else (none)) else (none))) else (none))) else (none)) else (spec_PathSquares.l0 k x10 x11 x12 (wrap64 (x13 - 1)) x1051000 x1051001)
end
def spec_PathSquares.f (k : Nat) (l0_0 : List Int) (l0_1 : List Int) (a1 : Int) (a2 : Int) (a3 : Int) : Option (List Int × Bool) := (spec_l13Ok.f k l0_0 l0_1 a1 a2 a3).bind fun t1051 => (if t1051 = true then ((spec_SlopeWord.f k a2 a3).bind fun t1052 => ((spec_PathRounds.f k l0_0 l0_1 a1 a2 a3).bind fun t1056 => (spec_PathSquares.l0 k t1052 (([] : List Int)) a1 t1056 l0_0 l0_1))) else (some (([] : List Int), false)))
theorem spec_PathSquares.mono_l : ∀ k, (∀ y0 y1 y2 y3 y4 y5, LeO (spec_PathSquares.l0 k y0 y1 y2 y3 y4 y5) (spec_PathSquares.l0 (k + 1) y0 y1 y2 y3 y4 y5)) ∧ (∀ y0 y1 y2 y3 y4 y5 y6, LeO (spec_PathSquares.l1 k y0 y1 y2 y3 y4 y5 y6) (spec_PathSquares.l1 (k + 1) y0 y1 y2 y3 y4 y5 y6))
  | 0 => ⟨fun _ _ _ _ _ _ r h => by simp [spec_PathSquares.l0] at h, fun _ _ _ _ _ _ _ r h => by simp [spec_PathSquares.l1] at h⟩
  | k + 1 => by
    obtain ⟨ih0, ih1⟩ := spec_PathSquares.mono_l k
    refine ⟨?_, ?_⟩
    · intro y0 y1 y2 y3 y4 y5
      unfold spec_PathSquares.l0
      repeat' first
      | (with_reducible exact ih0 _ _ _ _ _ _)
      | (with_reducible exact ih1 _ _ _ _ _ _ _)
      | (with_reducible exact spec_PathRounds.mono _ _ _ _ _ _)
      | (with_reducible exact spec_SlopeWord.mono _ _ _)
      | (with_reducible exact spec_l13Ok.mono _ _ _ _ _ _)
      | (with_reducible exact LeO.refl _)
      | (with_reducible exact LeO.none _)
      | (with_reducible refine LeO.ite ?_ ?_)
      | (with_reducible refine LeO.bind ?_ (fun _ => ?_))
      | exact ih0 _ _ _ _ _ _
      | exact ih1 _ _ _ _ _ _ _
      | exact spec_PathRounds.mono _ _ _ _ _ _
      | exact spec_SlopeWord.mono _ _ _
      | exact spec_l13Ok.mono _ _ _ _ _ _
      | exact LeO.none _
      | refine LeO.ite ?_ ?_
      | refine LeO.bind ?_ (fun _ => ?_)
    · intro y0 y1 y2 y3 y4 y5 y6
      unfold spec_PathSquares.l1
      repeat' first
      | (with_reducible exact ih0 _ _ _ _ _ _)
      | (with_reducible exact ih1 _ _ _ _ _ _ _)
      | (with_reducible exact spec_PathRounds.mono _ _ _ _ _ _)
      | (with_reducible exact spec_SlopeWord.mono _ _ _)
      | (with_reducible exact spec_l13Ok.mono _ _ _ _ _ _)
      | (with_reducible exact LeO.refl _)
      | (with_reducible exact LeO.none _)
      | (with_reducible refine LeO.ite ?_ ?_)
      | (with_reducible refine LeO.bind ?_ (fun _ => ?_))
      | exact ih0 _ _ _ _ _ _
      | exact ih1 _ _ _ _ _ _ _
      | exact spec_PathRounds.mono _ _ _ _ _ _
      | exact spec_SlopeWord.mono _ _ _
      | exact spec_l13Ok.mono _ _ _ _ _ _
      | exact LeO.none _
      | refine LeO.ite ?_ ?_
      | refine LeO.bind ?_ (fun _ => ?_)
theorem spec_PathSquares.mono : ∀ a0 a1 a2 a3 a4 k, LeO (spec_PathSquares.f k a0 a1 a2 a3 a4) (spec_PathSquares.f (k + 1) a0 a1 a2 a3 a4) := by
  intro a0 a1 a2 a3 a4 k
  obtain ⟨ih0, ih1⟩ := spec_PathSquares.mono_l k
  unfold spec_PathSquares.f
  repeat' first
      | (with_reducible exact ih0 _ _ _ _ _ _)
      | (with_reducible exact ih1 _ _ _ _ _ _ _)
      | (with_reducible exact spec_PathRounds.mono _ _ _ _ _ _)
      | (with_reducible exact spec_SlopeWord.mono _ _ _)
      | (with_reducible exact spec_l13Ok.mono _ _ _ _ _ _)
      | (with_reducible exact LeO.refl _)
      | (with_reducible exact LeO.none _)
      | (with_reducible refine LeO.ite ?_ ?_)
      | (with_reducible refine LeO.bind ?_ (fun _ => ?_))
      | exact ih0 _ _ _ _ _ _
      | exact ih1 _ _ _ _ _ _ _
      | exact spec_PathRounds.mono _ _ _ _ _ _
      | exact spec_SlopeWord.mono _ _ _
      | exact spec_l13Ok.mono _ _ _ _ _ _
      | exact LeO.none _
      | refine LeO.ite ?_ ?_
      | refine LeO.bind ?_ (fun _ => ?_)
set_option maxHeartbeats 8000000 in
set_option maxRecDepth 100000 in
theorem spec_PathSquares.calls (k : Nat) (A0_0 : Option Addr) (c0_0 : Nat) (l0_0 : List Int) (A0_1 : Option Addr) (c0_1 : Nat) (l0_1 : List Int) (a1 : Int) (a2 : Int) (a3 : Int) (r1 : List Int) (r2 : Bool) (w : World) (hr0_0 : Kd.C (Kd.int .i64) w A0_0 l0_0.length l0_0) (hc0_0 : l0_0.length ≤ c0_0) (hr0_1 : Kd.C (Kd.int .i64) w A0_1 l0_1.length l0_1) (hc0_1 : l0_1.length ≤ c0_1) (h : spec_PathSquares.f k l0_0 l0_1 a1 a2 a3 = some (r1, r2)) :
    Calls Try.prog 34 #[.agg #[.slice A0_0 l0_0.length c0_0, .slice A0_1 l0_1.length c0_1], .int .i64 a1, .int .i64 a2, .int .i64 a3] w fun e w' => ∃ v0_ : Value, e = .returned (.tuple #[v0_, .bool r2]) ∧ Kd.R (Kd.int .i64) 3 w' w.heap.size (fun _ => True) v0_ r1 ∧ Below w.heap.size w w' := by
  have hu27 := Try.underlying27
  have HR0_0 := Aside0.mk hr0_0
  have HC0_0 := Aside0.mk hc0_0
  clear hr0_0 hc0_0
  have HR0_1 := Aside0.mk hr0_1
  have HC0_1 := Aside0.mk hc0_1
  clear hr0_1 hc0_1
  have HB := Aside0.mk (Below.refl w.heap.size w)
  have H : ((spec_l13Ok.f k l0_0 l0_1 a1 a2 a3).bind fun t1051 => (if t1051 = true then ((spec_SlopeWord.f k a2 a3).bind fun t1052 => ((spec_PathRounds.f k l0_0 l0_1 a1 a2 a3).bind fun t1056 => (spec_PathSquares.l0 k t1052 (([] : List Int)) a1 t1056 l0_0 l0_1))) else (some (([] : List Int), false)))) = some (r1, r2) := h
  clear h
  replace H := Option.bind_eq_some_iff.mp H
  obtain ⟨t1051, A50, H⟩ := H
  replace H : (if t1051 = true then ((spec_SlopeWord.f k a2 a3).bind fun t1052 => ((spec_PathRounds.f k l0_0 l0_1 a1 a2 a3).bind fun t1056 => (spec_PathSquares.l0 k t1052 (([] : List Int)) a1 t1056 l0_0 l0_1))) else (some (([] : List Int), false))) = some (r1, r2) := H
  have A5 := Aside0.mk A50
  clear A50
  by_cases c6 : t1051 = true
  · subst c6
    have H1 : ((spec_SlopeWord.f k a2 a3).bind fun t1052 => ((spec_PathRounds.f k l0_0 l0_1 a1 a2 a3).bind fun t1056 => (spec_PathSquares.l0 k t1052 (([] : List Int)) a1 t1056 l0_0 l0_1))) = some (r1, r2) := by rw [if_pos rfl] at H; exact H
    clear H
    have H := H1
    clear H1
    replace H := Option.bind_eq_some_iff.mp H
    obtain ⟨t1052, A70, H⟩ := H
    replace H : ((spec_PathRounds.f k l0_0 l0_1 a1 a2 a3).bind fun t1056 => (spec_PathSquares.l0 k t1052 (([] : List Int)) a1 t1056 l0_0 l0_1)) = some (r1, r2) := H
    have A7 := Aside0.mk A70
    clear A70
    obtain ⟨y1053, hy1053⟩ : ∃ y_ : List Int, y_ = (([] : List Int)) := ⟨_, rfl⟩
    replace H : ((spec_PathRounds.f k l0_0 l0_1 a1 a2 a3).bind fun t1056 => (spec_PathSquares.l0 k t1052 y1053 a1 t1056 l0_0 l0_1)) = some (r1, r2) := by first | (rw [hy1053]; with_reducible exact H) | (have H2_ := (Option.bind_some _ _).symm.trans H; rw [hy1053]; with_reducible exact H2_) | (have H2_ := (Option.bind_some _ _).symm.trans H; with_reducible exact H2_) | with_reducible exact H | (rw [hy1053]; exact H) | exact H
    have Ny1053 := Aside0.mk hy1053
    clear hy1053
    replace H := Option.bind_eq_some_iff.mp H
    obtain ⟨t1056, A80, H⟩ := H
    replace H : (spec_PathSquares.l0 k t1052 y1053 a1 t1056 l0_0 l0_1) = some (r1, r2) := H
    have A8 := Aside0.mk A80
    clear A80
    have H' := Aside0.mk H
    clear H
    go_enter Try.func34, Try.ntmps34
    go_wp2_with (first | ((with_reducible refine gate_dst (N := 4) rfl ?_); refine box_event ?hg (N := 4) ?hd (cs := #[.slice A0_0 l0_0.length c0_0, .slice A0_1 l0_1.length c0_1]) (t := 27) ?hr ?_; (case hd => rfl); (case hg => rfl); (case hr => first | (go_simp; done) | (go_simp; rfl)); intro gb1050 hg w9 hbox hb; have n0_ := Aside0.mk (below_step (by repeat (first | (with_reducible first | exact HB.out | apply below_alloc | apply pw_below_drewN | apply below_drew1) | exact HB.out)) hb); have n1_ := Aside0.mk (hbox); have n2_ := Aside0.mk ((by rw [hg]; exact (below_size (by repeat (first | (with_reducible first | exact HB.out | apply below_alloc | apply pw_below_drewN | apply below_drew1) | exact HB.out))) : w.heap.size ≤ gb1050)); have n3_ := Aside0.mk ((by rw [hg]; exact (below_size (by repeat (first | (with_reducible first | exact HB.out | apply below_alloc | apply pw_below_drewN | apply below_drew1) | exact HB.out))) : w.heap.size ≤ gb1050)); clear HB; have HB := n0_; have BK1050 := n1_; have GW1050 := n2_; have GE1050 := n3_; clear n0_ n1_ n2_ n3_; clear hb hbox hg; have hcz10_0 : w9.cell? ⟨gb1050, 0, none⟩ = some (.slice A0_0 l0_0.length c0_0) := (blk_cell BK1050.out 0).trans rfl; have hcz10_1 : w9.cell? ⟨gb1050, 1, none⟩ = some (.slice A0_1 l0_1.length c0_1) := (blk_cell BK1050.out 1).trans rfl; have hfz10_0 := blk_frozen BK1050.out 0; have hfz10_1 := blk_frozen BK1050.out 1) | ((with_reducible refine gate_callee (f := 84) rfl ?_); refine goesL_ (some 19) rfl rfl Try.func84 (by kernel_rfl) rfl #[.agg #[.slice A0_0 l0_0.length c0_0, .slice A0_1 l0_1.length c0_1], .int .i64 a1, .int .i64 a2, .int .i64 a3] rfl (by (try simp only [List.map_toArray, List.map_cons, List.map_nil]); first | done | rfl | (simp only [List.length_drop, List.length_take]; rfl)) ?_; (with_reducible refine (spec_l13Ok.calls k _ _ l0_0 _ _ l0_1 a1 a2 a3 true _ ?side1 ?side2 ?side3 ?side4 A5.out).mono ?_); (case side1 => repeat (first | exact (Kd.C_below HR0_0.out HB.out) | (with_reducible refine Kd.C_alloc ?_ _) | (with_reducible refine Kd.C_drewN ?_ _) | (with_reducible refine Kd.C_drew ?_))); (case side2 => exact HC0_0.out); (case side3 => repeat (first | exact (Kd.C_below HR0_1.out HB.out) | (with_reducible refine Kd.C_alloc ?_ _) | (with_reducible refine Kd.C_drewN ?_ _) | (with_reducible refine Kd.C_drew ?_))); (case side4 => exact HC0_1.out); rintro e w11 ⟨rfl, hb⟩; refine ⟨_, rfl, ?_⟩; have n0_ := Aside0.mk (blk_below (g := gb1050) (o := .cells #[.slice A0_0 l0_0.length c0_0, .slice A0_1 l0_1.length c0_1] 27 (0, 0)) (by (with_reducible repeat (first | refine blk_drewN ?_ _ | refine blk_drew ?_ | refine blk_alloc ?_ _)); exact BK1050.out) hb); have n1_ := Aside0.mk (below_step (by repeat (first | (with_reducible first | exact HB.out | apply below_alloc | apply pw_below_drewN | apply below_drew1 | refine below_set ?_ GE1050.out) | exact HB.out)) hb); clear BK1050; clear HB; have BK1050 := n0_; have HB := n1_; clear n0_ n1_; (try clear hb); (try clear hb2); (try clear hk); (try clear hi)) | ((with_reducible refine gate_callee (f := 80) rfl ?_); refine goesL_ (some 23) rfl rfl Try.func80 (by kernel_rfl) rfl #[.int .i64 a2, .int .i64 a3] rfl (by (try simp only [List.map_toArray, List.map_cons, List.map_nil]); first | done | rfl | (simp only [List.length_drop, List.length_take]; rfl)) ?_; (with_reducible refine (spec_SlopeWord.calls k a2 a3 t1052 _ A7.out).mono ?_); rintro e w' ⟨rfl, ⟨nd, rfl⟩⟩; refine ⟨_, rfl, ?_⟩) | ((with_reducible refine gate_dst (N := 24) rfl ?_); refine Kd.R_lit (Kd.int .i64) _ 3 ?hg (N := 24) ?hd (xs := ([] : List Int)) (inner := []) (ok := fun _ => True) (okp := fun _ => True) ?hr ?hp (fun _ hk => hk) trivial (Below.refl _ _) (Nat.le_refl _) (by simp) ?_; (case hd => rfl); (case hg => rfl); (case hr => first | (go_simp; done) | (go_simp; rfl)); (case hp => exact (Reps.none _ _)); intro v1054 w12 ho13 hb hg_ hnew_; clear hg_ hnew_; (first | rw [← Ny1053.out] at ho13 | (simp only [Int.reduceToNat] at ho13; rw [← Ny1053.out] at ho13)); have n0_ := Aside0.mk (Kd.R_lower ho13 (below_size (by repeat (first | (with_reducible first | exact HB.out | apply below_alloc | apply pw_below_drewN | apply below_drew1 | refine below_set ?_ GE1050.out) | exact HB.out)))); have n1_ := Aside0.mk (blk_below (g := gb1050) (o := .cells #[.slice A0_0 l0_0.length c0_0, .slice A0_1 l0_1.length c0_1] 27 (0, 0)) (by (with_reducible repeat (first | refine blk_drewN ?_ _ | refine blk_drew ?_ | refine blk_alloc ?_ _)); exact BK1050.out) hb); have n2_ := Aside0.mk (below_step (by repeat (first | (with_reducible first | exact HB.out | apply below_alloc | apply pw_below_drewN | apply below_drew1 | refine below_set ?_ GE1050.out) | exact HB.out)) hb); clear BK1050; clear HB; have HO1055 := n0_; have BK1050 := n1_; have HB := n2_; clear n0_ n1_ n2_; clear hb ho13; have hcz14_0 : w12.cell? ⟨gb1050, 0, none⟩ = some (.slice A0_0 l0_0.length c0_0) := (blk_cell BK1050.out 0).trans rfl; have hcz14_1 : w12.cell? ⟨gb1050, 1, none⟩ = some (.slice A0_1 l0_1.length c0_1) := (blk_cell BK1050.out 1).trans rfl; have hfz14_0 := blk_frozen BK1050.out 0; have hfz14_1 := blk_frozen BK1050.out 1) | ((with_reducible refine gate_callee (f := 81) rfl ?_); refine goesL_ (some 30) rfl rfl Try.func81 (by kernel_rfl) rfl #[.agg #[.slice A0_0 l0_0.length c0_0, .slice A0_1 l0_1.length c0_1], .int .i64 a1, .int .i64 a2, .int .i64 a3] rfl (by (try simp only [List.map_toArray, List.map_cons, List.map_nil]); first | done | rfl | (simp only [List.length_drop, List.length_take]; rfl)) ?_; (with_reducible refine (spec_PathRounds.calls k _ _ l0_0 _ _ l0_1 a1 a2 a3 t1056 _ ?side1 ?side2 ?side3 ?side4 A8.out).mono ?_); (case side1 => repeat (first | exact (Kd.C_below HR0_0.out HB.out) | (with_reducible refine Kd.C_alloc ?_ _) | (with_reducible refine Kd.C_drewN ?_ _) | (with_reducible refine Kd.C_drew ?_))); (case side2 => exact HC0_0.out); (case side3 => repeat (first | exact (Kd.C_below HR0_1.out HB.out) | (with_reducible refine Kd.C_alloc ?_ _) | (with_reducible refine Kd.C_drewN ?_ _) | (with_reducible refine Kd.C_drew ?_))); (case side4 => exact HC0_1.out); rintro e w15 ⟨rfl, hb⟩; refine ⟨_, rfl, ?_⟩; have n0_ := Aside0.mk (Kd.R_below (by (with_reducible repeat (first | apply Kd.R_alloc | apply Kd.R_drewN | apply Kd.R_drew)); exact HO1055.out) hb); have n1_ := Aside0.mk (blk_below (g := gb1050) (o := .cells #[.slice A0_0 l0_0.length c0_0, .slice A0_1 l0_1.length c0_1] 27 (0, 0)) (by (with_reducible repeat (first | refine blk_drewN ?_ _ | refine blk_drew ?_ | refine blk_alloc ?_ _)); exact BK1050.out) hb); have n2_ := Aside0.mk (below_step (by repeat (first | (with_reducible first | exact HB.out | apply below_alloc | apply pw_below_drewN | apply below_drew1 | refine below_set ?_ GE1050.out) | exact HB.out)) hb); clear HO1055; clear BK1050; clear HB; have HO1055 := n0_; have BK1050 := n1_; have HB := n2_; clear n0_ n1_ n2_; (try clear hb); (try clear hb2); (try clear hk); (try clear hi)))
    go_loopg [11, 12, 13] k (fun kq v11 v12 v13 w' => ∃ (x11_1 : List Int) (x12_1 : Int) (x13_1 : Int), v12 = .int .i64 x12_1 ∧ v13 = .int .i64 x13_1 ∧ Aside0 (spec_PathSquares.l0 kq t1052 x11_1 x12_1 x13_1 l0_0 l0_1 = some (r1, r2)) ∧ Aside0 (kq ≤ k) ∧ Aside0 (Kd.R (Kd.int .i64) 3 w' w.heap.size (fun _ => True) v11 x11_1) ∧ Aside0 (w'.heap[gb1050]? = some (.cells #[(.slice A0_0 l0_0.length c0_0), (.slice A0_1 l0_1.length c0_1)] 27 (0, 0))) ∧ Aside0 (Below w.heap.size w w'))
    case atStart => exact ⟨(y1053), (a1), (t1056), (by first | rfl | (simp; done) | (simp [*]; done)), (by first | rfl | (simp; done) | (simp [*]; done)), H', ⟨Nat.le_refl _⟩, ⟨by (with_reducible repeat (first | apply Kd.R_alloc | apply Kd.R_drewN | apply Kd.R_drew)); exact HO1055.out⟩, ⟨by (with_reducible repeat (first | refine blk_drewN ?_ _ | refine blk_drew ?_ | refine blk_alloc ?_ _)); exact BK1050.out⟩, ⟨by repeat (first | (with_reducible first | exact HB.out | apply below_alloc | apply pw_below_drewN | apply below_drew1 | refine below_set ?_ GE1050.out) | exact HB.out)⟩⟩
    case round =>
      clear H'
      try clear p2
      try clear c3
      try clear c6
      try clear c8
      try clear hcz10_0
      try clear hcz10_1
      try clear hcz14_0
      try clear hcz14_1
      try clear hfz10_0
      try clear hfz10_1
      try clear hfz14_0
      try clear hfz14_1
      obtain ⟨x11_1, x12_1, x13_1, rfl, rfl, HA, HK1, HO_11, BK1050, HB⟩ := hrel
      cases gk with
      | zero => exact absurd HA.out (by simp [spec_PathSquares.l0])
      | succ k1 =>
        have H := HA.out
        clear HA
        simp only [spec_PathSquares.l0] at H
        by_cases c16 : x13_1 > 0
        · rw [if_pos c16] at H
          have c16b0 : decide (0 < x13_1) = true := decide_eq_true c16
          clear c16
          have H' := Aside0.mk H
          clear H
          go_wp2
          go_loopg [11, 12, 14] k1 (fun kq v11 v12 v14 w' => ∃ (x11_2 : List Int) (x12_2 : Int) (x14_2 : Int), v12 = .int .i64 x12_2 ∧ v14 = .int .i64 x14_2 ∧ Aside0 (spec_PathSquares.l1 kq t1052 x11_2 x12_2 x13_1 x14_2 l0_0 l0_1 = some (r1, r2)) ∧ Aside0 (kq ≤ k1) ∧ Aside0 (Kd.R (Kd.int .i64) 3 w' w.heap.size (fun _ => True) v11 x11_2) ∧ Aside0 (w'.heap[gb1050]? = some (.cells #[(.slice A0_0 l0_0.length c0_0), (.slice A0_1 l0_1.length c0_1)] 27 (0, 0))) ∧ Aside0 (Below w.heap.size w w'))
          case atStart => exact ⟨(x11_1), (x12_1), (0), (by first | rfl | (simp; done) | (simp [*]; done)), (by first | rfl | (simp; done) | (simp [*]; done)), H', ⟨Nat.le_refl _⟩, ⟨by (with_reducible repeat (first | apply Kd.R_alloc | apply Kd.R_drewN | apply Kd.R_drew)); exact HO_11.out⟩, ⟨by (with_reducible repeat (first | refine blk_drewN ?_ _ | refine blk_drew ?_ | refine blk_alloc ?_ _)); exact BK1050.out⟩, ⟨by repeat (first | (with_reducible first | exact HB.out | apply below_alloc | apply pw_below_drewN | apply below_drew1 | refine below_set ?_ GE1050.out) | exact HB.out)⟩⟩
          case round =>
            clear H'
            try clear c1
            try clear p2
            try clear c3
            try clear c6
            try clear c8
            try clear c16
            try clear c16b0
            try clear hcz10_0
            try clear hcz10_1
            try clear hcz14_0
            try clear hcz14_1
            try clear hfz10_0
            try clear hfz10_1
            try clear hfz14_0
            try clear hfz14_1
            try clear p2
            obtain ⟨x11_2, x12_2, x14_2, rfl, rfl, HA, HK2, HO_11, BK1050, HB⟩ := hrel
            cases gk with
            | zero => exact absurd HA.out (by simp [spec_PathSquares.l1])
            | succ k2 =>
              have H := HA.out
              clear HA
              simp only [spec_PathSquares.l1] at H
              by_cases c17 : x14_2 < (t1052.size : Int)
              · rw [if_pos c17] at H
                have c17b0 : decide (x14_2 < (t1052.size : Int)) = true := decide_eq_true c17
                clear c17
                by_cases c18 : x11_2.length < 17592186044416
                · rw [if_pos c18] at H
                  have LMc18 := Aside0.mk c18
                  clear c18
                  obtain ⟨y1057, hy1057⟩ : ∃ y_ : List Int, y_ = (x11_2 ++ [x12_2]) := ⟨_, rfl⟩
                  replace H : (if 0 ≤ x14_2 then (if (bt t1052 x14_2) = 114 then (if 0 ≤ x12_2 then (if x12_2 < (l0_0.length : Int) then (spec_PathSquares.l1 k2 t1052 y1057 (rd l0_0 x12_2) x13_1 (wrap64 (x14_2 + 1)) l0_0 l0_1) else (none)) else (none)) else (if 0 ≤ x12_2 then (if x12_2 < (l0_1.length : Int) then (spec_PathSquares.l1 k2 t1052 y1057 (rd l0_1 x12_2) x13_1 (wrap64 (x14_2 + 1)) l0_0 l0_1) else (none)) else (none))) else (none)) = some (r1, r2) := by first | (rw [hy1057]; with_reducible exact H) | (have H2_ := (Option.bind_some _ _).symm.trans H; rw [hy1057]; with_reducible exact H2_) | (have H2_ := (Option.bind_some _ _).symm.trans H; with_reducible exact H2_) | with_reducible exact H | (rw [hy1057]; exact H) | exact H
                  have Ny1057 := Aside0.mk hy1057
                  clear hy1057
                  by_cases c19 : 0 ≤ x14_2
                  · rw [if_pos c19] at H
                    have c19b0 : decide (0 ≤ x14_2) = true := decide_eq_true c19
                    clear c19
                    by_cases c21 : (bt t1052 x14_2) = 114
                    · rw [if_pos c21] at H
                      have c21b0 : ((bt t1052 x14_2) == 114) = true := beq_iff_eq.mpr c21
                      have c21b1 : ((bt t1052 x14_2) != 114) = false := bne_eq_false_iff_eq.mpr c21
                      clear c21
                      by_cases c22 : 0 ≤ x12_2
                      · rw [if_pos c22] at H
                        have c22b0 : decide (0 ≤ x12_2) = true := decide_eq_true c22
                        clear c22
                        by_cases c23 : x12_2 < (l0_0.length : Int)
                        · rw [if_pos c23] at H
                          have c23b0 : decide (x12_2 < (l0_0.length : Int)) = true := decide_eq_true c23
                          clear c23
                          have H' := Aside0.mk H
                          clear H
                          go_wp2_with (first | ((with_reducible refine gate_builtin (b := .append) (xs := #[.tmp 41, .tmp 43]) rfl ?_); at_builtin; refine Kd.R_append (Kd.int .i64) (w0 := w) w.heap.size rfl (.tmp 41) (.tmp 43) 22 3 (.int .i64 0) 8 rfl Try.underlying22 info3 rfl (by decide) (by omega) u11 x11_2 x12_2 [.int .i64 x12_2] (fun _ => True) (fun _ => False) rfl rfl ?aP (fun _ hk => hk.elim) ?aF ?aO ?aB ?aS ?aL ?_; (case aP => exact rfl); (case aB => exact (by repeat (first | (with_reducible first | exact HB.out | apply below_alloc | apply pw_below_drewN | apply below_drew1 | refine below_set ?_ GE1050.out) | exact HB.out))); (case aF => exact (fun _ _ => trivial)); (case aO => exact (by (with_reducible repeat (first | apply Kd.R_alloc | apply Kd.R_drewN | apply Kd.R_drew)); exact HO_11.out)); (case aS => exact (below_size (by repeat (first | (with_reducible first | exact HB.out | apply below_alloc | apply pw_below_drewN | apply below_drew1 | refine below_set ?_ GE1050.out) | exact HB.out)))); (case aL => have := LMc18.out; omega); intro v1058 w24 ho hb hg hat; rw [← Ny1057.out] at ho; have n0_ := Aside0.mk (blk_grown (g := gb1050) (o := .cells #[.slice A0_0 l0_0.length c0_0, .slice A0_1 l0_1.length c0_1] 27 (0, 0)) (by (with_reducible repeat (first | refine blk_drewN ?_ _ | refine blk_drew ?_ | refine blk_alloc ?_ _)); exact BK1050.out) hg (Kd.R_ne HO_11.out BK1050.out (by decide))); have n1_ := Aside0.mk (hb); have n2_ := Aside0.mk (ho); clear BK1050; clear HB; clear HO_11; have BK1050 := n0_; have HB := n1_; have HO1059 := n2_; clear n0_ n1_ n2_; clear ho hb hg hat; have p20 : 0 ≤ (x14_2 : Int) := of_decide_eq_true (by first | (with_reducible assumption) | assumption); have q20 : x14_2 < (t1052.size : Int) := of_decide_eq_true (by first | (with_reducible assumption) | assumption); have hx20 := bt_at t1052 x14_2; replace p20 := eq_true p20; replace q20 := eq_true q20; have hcz25_0 : w24.cell? ⟨gb1050, 0, none⟩ = some (.slice A0_0 l0_0.length c0_0) := (blk_cell BK1050.out 0).trans rfl; have hcz25_1 : w24.cell? ⟨gb1050, 1, none⟩ = some (.slice A0_1 l0_1.length c0_1) := (blk_cell BK1050.out 1).trans rfl; have hfz25_0 := blk_frozen BK1050.out 0; have hfz25_1 := blk_frozen BK1050.out 1; have p1060 : 0 ≤ (x12_2 : Int) := of_decide_eq_true (by first | (with_reducible assumption) | assumption); have q1060 : x12_2 < (l0_0.length : Int) := of_decide_eq_true (by first | (with_reducible assumption) | assumption); obtain ⟨ad1060, e1060, hx1060_0⟩ := Kd.at_int HR0_0.out x12_2 p1060 q1060; cases e1060; replace hx1060_0 := (HB.out.cell (World.block_lt_of_cell? w _ hx1060_0)).trans hx1060_0; replace p1060 := eq_true p1060; replace q1060 := eq_true q1060))
                          go_roundg k2
                          case measure => have := HK1.out; have := HK2.out; omega
                          case rel => exact ⟨(y1057), (rd l0_0 x12_2), (wrap64 (x14_2 + 1)), (by first | rfl | (simp; done) | (simp [*]; done)), (by first | rfl | (simp; done) | (simp [*]; done)), H', ⟨by have := HK1.out; have := HK2.out; omega⟩, ⟨by (with_reducible repeat (first | apply Kd.R_alloc | apply Kd.R_drewN | apply Kd.R_drew)); exact HO1059.out⟩, ⟨by (with_reducible repeat (first | refine blk_drewN ?_ _ | refine blk_drew ?_ | refine blk_alloc ?_ _)); exact BK1050.out⟩, ⟨by repeat (first | (with_reducible first | exact HB.out | apply below_alloc | apply pw_below_drewN | apply below_drew1 | refine below_set ?_ GE1050.out) | exact HB.out)⟩⟩
                        · rw [if_neg c23] at H
                          exact absurd H (by simp)
                      · rw [if_neg c22] at H
                        exact absurd H (by simp)
                    · rw [if_neg c21] at H
                      have c21b0 : ((bt t1052 x14_2) == 114) = false := beq_eq_false_iff_ne.mpr c21
                      have c21b1 : ((bt t1052 x14_2) != 114) = true := bne_iff_ne.mpr c21
                      by_cases c26 : 0 ≤ x12_2
                      · rw [if_pos c26] at H
                        have c26b0 : decide (0 ≤ x12_2) = true := decide_eq_true c26
                        clear c26
                        by_cases c27 : x12_2 < (l0_1.length : Int)
                        · rw [if_pos c27] at H
                          have c27b0 : decide (x12_2 < (l0_1.length : Int)) = true := decide_eq_true c27
                          clear c27
                          have H' := Aside0.mk H
                          clear H
                          go_wp2_with (first | ((with_reducible refine gate_builtin (b := .append) (xs := #[.tmp 41, .tmp 43]) rfl ?_); at_builtin; refine Kd.R_append (Kd.int .i64) (w0 := w) w.heap.size rfl (.tmp 41) (.tmp 43) 22 3 (.int .i64 0) 8 rfl Try.underlying22 info3 rfl (by decide) (by omega) u11 x11_2 x12_2 [.int .i64 x12_2] (fun _ => True) (fun _ => False) rfl rfl ?aP (fun _ hk => hk.elim) ?aF ?aO ?aB ?aS ?aL ?_; (case aP => exact rfl); (case aB => exact (by repeat (first | (with_reducible first | exact HB.out | apply below_alloc | apply pw_below_drewN | apply below_drew1 | refine below_set ?_ GE1050.out) | exact HB.out))); (case aF => exact (fun _ _ => trivial)); (case aO => exact (by (with_reducible repeat (first | apply Kd.R_alloc | apply Kd.R_drewN | apply Kd.R_drew)); exact HO_11.out)); (case aS => exact (below_size (by repeat (first | (with_reducible first | exact HB.out | apply below_alloc | apply pw_below_drewN | apply below_drew1 | refine below_set ?_ GE1050.out) | exact HB.out)))); (case aL => have := LMc18.out; omega); intro v1058 w28 ho hb hg hat; rw [← Ny1057.out] at ho; have n0_ := Aside0.mk (blk_grown (g := gb1050) (o := .cells #[.slice A0_0 l0_0.length c0_0, .slice A0_1 l0_1.length c0_1] 27 (0, 0)) (by (with_reducible repeat (first | refine blk_drewN ?_ _ | refine blk_drew ?_ | refine blk_alloc ?_ _)); exact BK1050.out) hg (Kd.R_ne HO_11.out BK1050.out (by decide))); have n1_ := Aside0.mk (hb); have n2_ := Aside0.mk (ho); clear BK1050; clear HB; clear HO_11; have BK1050 := n0_; have HB := n1_; have HO1059 := n2_; clear n0_ n1_ n2_; clear ho hb hg hat; have p20 : 0 ≤ (x14_2 : Int) := of_decide_eq_true (by first | (with_reducible assumption) | assumption); have q20 : x14_2 < (t1052.size : Int) := of_decide_eq_true (by first | (with_reducible assumption) | assumption); have hx20 := bt_at t1052 x14_2; replace p20 := eq_true p20; replace q20 := eq_true q20; have hcz29_0 : w28.cell? ⟨gb1050, 0, none⟩ = some (.slice A0_0 l0_0.length c0_0) := (blk_cell BK1050.out 0).trans rfl; have hcz29_1 : w28.cell? ⟨gb1050, 1, none⟩ = some (.slice A0_1 l0_1.length c0_1) := (blk_cell BK1050.out 1).trans rfl; have hfz29_0 := blk_frozen BK1050.out 0; have hfz29_1 := blk_frozen BK1050.out 1; have p1061 : 0 ≤ (x12_2 : Int) := of_decide_eq_true (by first | (with_reducible assumption) | assumption); have q1061 : x12_2 < (l0_1.length : Int) := of_decide_eq_true (by first | (with_reducible assumption) | assumption); obtain ⟨ad1061, e1061, hx1061_0⟩ := Kd.at_int HR0_1.out x12_2 p1061 q1061; cases e1061; replace hx1061_0 := (HB.out.cell (World.block_lt_of_cell? w _ hx1061_0)).trans hx1061_0; replace p1061 := eq_true p1061; replace q1061 := eq_true q1061))
                          go_roundg k2
                          case measure => have := HK1.out; have := HK2.out; omega
                          case rel => exact ⟨(y1057), (rd l0_1 x12_2), (wrap64 (x14_2 + 1)), (by first | rfl | (simp; done) | (simp [*]; done)), (by first | rfl | (simp; done) | (simp [*]; done)), H', ⟨by have := HK1.out; have := HK2.out; omega⟩, ⟨by (with_reducible repeat (first | apply Kd.R_alloc | apply Kd.R_drewN | apply Kd.R_drew)); exact HO1059.out⟩, ⟨by (with_reducible repeat (first | refine blk_drewN ?_ _ | refine blk_drew ?_ | refine blk_alloc ?_ _)); exact BK1050.out⟩, ⟨by repeat (first | (with_reducible first | exact HB.out | apply below_alloc | apply pw_below_drewN | apply below_drew1 | refine below_set ?_ GE1050.out) | exact HB.out)⟩⟩
                        · rw [if_neg c27] at H
                          exact absurd H (by simp)
                      · rw [if_neg c26] at H
                        exact absurd H (by simp)
                  · rw [if_neg c19] at H
                    exact absurd H (by simp)
                · rw [if_neg c18] at H
                  exact absurd H (by simp)
              · rw [if_neg c17] at H
                have c17b0 : decide (x14_2 < (t1052.size : Int)) = false := decide_eq_false c17
                clear c17
                have H' := Aside0.mk H
                clear H
                go_wp2
                go_roundg k2
                case measure => have := HK1.out; have := HK2.out; omega
                case rel => exact ⟨(x11_2), (x12_2), (wrap64 (x13_1 - 1)), (by first | rfl | (simp; done) | (simp [*]; done)), (by first | rfl | (simp; done) | (simp [*]; done)), H', ⟨by have := HK1.out; have := HK2.out; omega⟩, ⟨by (with_reducible repeat (first | apply Kd.R_alloc | apply Kd.R_drewN | apply Kd.R_drew)); exact HO_11.out⟩, ⟨by (with_reducible repeat (first | refine blk_drewN ?_ _ | refine blk_drew ?_ | refine blk_alloc ?_ _)); exact BK1050.out⟩, ⟨by repeat (first | (with_reducible first | exact HB.out | apply below_alloc | apply pw_below_drewN | apply below_drew1 | refine below_set ?_ GE1050.out) | exact HB.out)⟩⟩
        · rw [if_neg c16] at H
          have c16b0 : decide (0 < x13_1) = false := decide_eq_false c16
          clear c16
          simp only [Option.some.injEq, Prod.mk.injEq] at H
          obtain ⟨rfl, rfl⟩ := H
          go_wp2
          go_ret2
          exact ⟨_, by first | rfl | (simp [errW_none, errW_some] <;> rfl) | (simp [*, errW_none, errW_some] <;> rfl), by (with_reducible repeat (first | apply Kd.R_alloc | apply Kd.R_drewN | apply Kd.R_drew)); exact HO_11.out, by repeat (first | (with_reducible first | exact HB.out | apply below_alloc | apply pw_below_drewN | apply below_drew1 | refine below_set ?_ GE1050.out) | exact HB.out)⟩
  · replace c6 := Bool.eq_false_iff.mpr c6
    subst c6
    have H1 : (some (([] : List Int), false)) = some (r1, r2) := by rw [if_neg (show ¬ (false = true) by decide)] at H; exact H
    clear H
    have H := H1
    clear H1
    simp only [Option.some.injEq, Prod.mk.injEq] at H
    obtain ⟨rfl, rfl⟩ := H
    go_enter Try.func34, Try.ntmps34
    go_wp2_with (first | ((with_reducible refine gate_dst (N := 4) rfl ?_); refine box_event ?hg (N := 4) ?hd (cs := #[.slice A0_0 l0_0.length c0_0, .slice A0_1 l0_1.length c0_1]) (t := 27) ?hr ?_; (case hd => rfl); (case hg => rfl); (case hr => first | (go_simp; done) | (go_simp; rfl)); intro gb1050 hg w30 hbox hb; have n0_ := Aside0.mk (below_step (by repeat (first | (with_reducible first | exact HB.out | apply below_alloc | apply pw_below_drewN | apply below_drew1) | exact HB.out)) hb); have n1_ := Aside0.mk (hbox); have n2_ := Aside0.mk ((by rw [hg]; exact (below_size (by repeat (first | (with_reducible first | exact HB.out | apply below_alloc | apply pw_below_drewN | apply below_drew1) | exact HB.out))) : w.heap.size ≤ gb1050)); have n3_ := Aside0.mk ((by rw [hg]; exact (below_size (by repeat (first | (with_reducible first | exact HB.out | apply below_alloc | apply pw_below_drewN | apply below_drew1) | exact HB.out))) : w.heap.size ≤ gb1050)); clear HB; have HB := n0_; have BK1050 := n1_; have GW1050 := n2_; have GE1050 := n3_; clear n0_ n1_ n2_ n3_; clear hb hbox hg; have hcz31_0 : w30.cell? ⟨gb1050, 0, none⟩ = some (.slice A0_0 l0_0.length c0_0) := (blk_cell BK1050.out 0).trans rfl; have hcz31_1 : w30.cell? ⟨gb1050, 1, none⟩ = some (.slice A0_1 l0_1.length c0_1) := (blk_cell BK1050.out 1).trans rfl; have hfz31_0 := blk_frozen BK1050.out 0; have hfz31_1 := blk_frozen BK1050.out 1) | ((with_reducible refine gate_callee (f := 84) rfl ?_); refine goesL_ (some 19) rfl rfl Try.func84 (by kernel_rfl) rfl #[.agg #[.slice A0_0 l0_0.length c0_0, .slice A0_1 l0_1.length c0_1], .int .i64 a1, .int .i64 a2, .int .i64 a3] rfl (by (try simp only [List.map_toArray, List.map_cons, List.map_nil]); first | done | rfl | (simp only [List.length_drop, List.length_take]; rfl)) ?_; (with_reducible refine (spec_l13Ok.calls k _ _ l0_0 _ _ l0_1 a1 a2 a3 false _ ?side1 ?side2 ?side3 ?side4 A5.out).mono ?_); (case side1 => repeat (first | exact (Kd.C_below HR0_0.out HB.out) | (with_reducible refine Kd.C_alloc ?_ _) | (with_reducible refine Kd.C_drewN ?_ _) | (with_reducible refine Kd.C_drew ?_))); (case side2 => exact HC0_0.out); (case side3 => repeat (first | exact (Kd.C_below HR0_1.out HB.out) | (with_reducible refine Kd.C_alloc ?_ _) | (with_reducible refine Kd.C_drewN ?_ _) | (with_reducible refine Kd.C_drew ?_))); (case side4 => exact HC0_1.out); rintro e w32 ⟨rfl, hb⟩; refine ⟨_, rfl, ?_⟩; have n0_ := Aside0.mk (blk_below (g := gb1050) (o := .cells #[.slice A0_0 l0_0.length c0_0, .slice A0_1 l0_1.length c0_1] 27 (0, 0)) (by (with_reducible repeat (first | refine blk_drewN ?_ _ | refine blk_drew ?_ | refine blk_alloc ?_ _)); exact BK1050.out) hb); have n1_ := Aside0.mk (below_step (by repeat (first | (with_reducible first | exact HB.out | apply below_alloc | apply pw_below_drewN | apply below_drew1 | refine below_set ?_ GE1050.out) | exact HB.out)) hb); clear BK1050; clear HB; have BK1050 := n0_; have HB := n1_; clear n0_ n1_; (try clear hb); (try clear hb2); (try clear hk); (try clear hi)))
    go_ret2
    exact ⟨_, by first | rfl | (simp [errW_none, errW_some] <;> rfl) | (simp [*, errW_none, errW_some] <;> rfl), by first | exact Kd.R_nil _ _ _ _ _ | exact Kd.N_nil _ _ _ _ _ | exact Kd.V_nil _ _ _ _ _ | exact Kd.Q_nil _ _ _ _ _ | exact Kd.S_nil _ _ _ _ _, by repeat (first | (with_reducible first | exact HB.out | apply below_alloc | apply pw_below_drewN | apply below_drew1 | refine below_set ?_ GE1050.out) | exact HB.out)⟩
end Go.Proofs.Ytbdnellgioimbaa.A
end
section
/- The letters and squares of a path: the program and the reference answer alike. No conditions. -/
namespace Go.Proofs.Ytbdnellgioimbaa.M
set_option linter.unusedVariables false
set_option linter.unusedSimpArgs false
open Go.RowKit Go.Proofs.YtbdnellgioimbaaW.PrintWords Go.Proofs.YtbdnellgioimbaaW.PrintLast Go.Proofs.YtbdnellgioimbaaW.PrintMore Go.Proofs.Ytbdnellgioimbaa.A
def wordX (p q : Int) : ByteArray := if slopeOkI p q = true then slopeWordI p q else ⟨#[]⟩
theorem wordX_ev (p q : Int) : Ev (fun k => spec_SlopeWord.f k p q) (wordX p q) ∧ Ev (fun k => impl_SlopeWord.f k p q) (wordX p q) ∧ (wordX p q).size ≤ 12 := by
  unfold wordX
  by_cases h : slopeOkI p q = true
  · rw [if_pos h]
    exact words_ev h
  · rw [if_neg h]
    obtain ⟨h1, h2⟩ := slopes_ev p q
    have h' := Bool.eq_false_iff.mpr h
    rw [h'] at h1 h2
    refine ⟨?_, ?_, Nat.zero_le _⟩
    · unfold spec_SlopeWord.f
      refine Ev.bind h1 ?_
      simp only [Bool.false_eq_true, if_false]
      exact Ev.now _
    · unfold impl_SlopeWord.f
      refine Ev.bind h2 ?_
      simp only [Bool.false_eq_true, if_false]
      exact Ev.now _
theorem word_tab : ∀ a : Fin 13, ∀ b : Fin 13, slopeOkI (a.val : Int) (b.val : Int) = true → 1 ≤ (slopeWordI (a.val : Int) (b.val : Int)).size := by decide +kernel
theorem word_pos {p q : Int} (h : slopeOkI p q = true) : 1 ≤ (slopeWordI p q).size := by
  obtain ⟨h1, h2⟩ := slope_in h
  obtain ⟨a, rfl⟩ : ∃ a : Nat, p = a := ⟨p.toNat, by omega⟩
  obtain ⟨b, rfl⟩ : ∃ b : Nat, q = b := ⟨q.toNat, by omega⟩
  exact word_tab ⟨a, by omega⟩ ⟨b, by omega⟩ h
def rep (w : ByteArray) (n : Nat) : ByteArray := ⟨(Lib.repeatL w.data.toList n).toArray⟩
theorem rep_data (w : ByteArray) (n : Nat) : (rep w n).data.toList = Lib.repeatL w.data.toList n := rfl
theorem rep_size (w : ByteArray) (n : Nat) : (rep w n).size = n * w.size := by
  rw [Lib.size_eq, rep_data, Lib.repeatL_length, ← Lib.size_eq]
theorem ba_ext {a b : ByteArray} (h : a.data.toList = b.data.toList) : a = b := by
  cases a; cases b
  congr 1
  exact Array.ext' h
theorem rep_succ (w : ByteArray) (n : Nat) : rep w n ++ w = rep w (n + 1) := by
  apply ba_ext
  rw [rep_data, Lib.repeatL_add, Lib.repeatL_one, ByteArray.data_append, Array.toList_append]
  rfl
theorem bt_list (s : ByteArray) (j : Nat) : bt s (j : Int) = (((s.data.toList)[j]?.getD 0).toNat : Int) := by
  unfold bt
  have e : ((j : Int)).toNat = j := by omega
  have hs := Lib.size_eq s
  by_cases h : j < s.size
  · rw [dif_pos (by rw [e]; exact h)]
    have h' : j < s.data.toList.length := by rw [← hs]; exact h
    rw [List.getElem?_eq_getElem h']
    simp only [e, Option.getD_some]
    rfl
  · rw [dif_neg (by rw [e]; exact h)]
    have h' : s.data.toList.length ≤ j := by rw [← hs]; omega
    rw [List.getElem?_eq_none h']
    rfl
theorem repL_at (l : List UInt8) : ∀ (n m i : Nat), m < n → i < l.length → (Lib.repeatL l n)[m * l.length + i]? = l[i]? := by
  intro n
  induction n with
  | zero => intro m i h; omega
  | succ n ih =>
    intro m i h hi
    show (l ++ Lib.repeatL l n)[m * l.length + i]? = l[i]?
    cases m with
    | zero =>
      rw [Nat.zero_mul, Nat.zero_add, List.getElem?_append_left hi]
    | succ m =>
      have e : (m + 1) * l.length + i = l.length + (m * l.length + i) := by rw [Nat.succ_mul]; omega
      rw [e, List.getElem?_append_right (Nat.le_add_right _ _), Nat.add_sub_cancel_left]
      exact ih m i (by omega) hi
theorem rep_bt (w : ByteArray) {n m i : Nat} (hm : m < n) (hi : i < w.size) : bt (rep w n) ((m * w.size + i : Nat) : Int) = bt w (i : Int) := by
  rw [bt_list, bt_list, rep_data]
  have e := Lib.size_eq w
  rw [e] at hi ⊢
  rw [repL_at _ _ _ _ hm hi]
theorem bl_loop (bs : ByteArray) : ∀ (d i : Nat) (r : List UInt8), i + d = bs.size → (ByteArray.toList.loop bs i r).length = r.length + d := by
  intro d
  induction d with
  | zero =>
    intro i r h
    rw [ByteArray.toList.loop, if_neg (by omega)]
    simp
  | succ d ih =>
    intro i r h
    rw [ByteArray.toList.loop, if_pos (by omega), ih (i + 1) _ (by omega)]
    simp only [List.length_cons]
    omega
theorem toList_nil {s : ByteArray} : s.toList = ([] : List UInt8) ↔ s.size = 0 := by
  have h := bl_loop s s.size 0 [] (by omega)
  have e : ByteArray.toList.loop s 0 [] = s.toList := rfl
  rw [e] at h
  constructor
  · intro k
    rw [k] at h
    simp at h
    omega
  · intro k
    rw [k] at h
    exact List.eq_nil_of_length_eq_zero (by simpa using h)
theorem pathText_full (r u : List Int) (s p q : Int) : ∃ n : Nat, (n ≤ 24 ∧ (okP r u s p q → 1 ≤ n ∧ itr (pathL (N r) (N u) (slopeWordI p q)) n s.toNat = s.toNat) ∧ (¬ okP r u s p q → n = 0)) ∧ Ev (fun k => spec_PathRounds.f k r u s p q) (n : Int) ∧ Ev (fun k => spec_PathText.f k r u s p q) (rep (wordX p q) n) ∧ Ev (fun k => impl_PathText.f k r u s p q) (rep (wordX p q) n) := by
  obtain ⟨n, h0, h1, h2⟩ := pathRounds_full r u s p q
  obtain ⟨w1, w2, w3⟩ := wordX_ev p q
  have hn := h0.1
  refine ⟨n, h0, h1, ?_, ?_⟩
  · unfold spec_PathText.f
    refine Ev.bind w1 (Ev.bind h1 ?_)
    generalize wordX p q = w at w3
    have H : ∀ d m : Nat, m + d = n → Ev (fun k => spec_PathText.l0 k w (rep w m) (d : Int)) (rep w n) := by
      intro d
      induction d with
      | zero =>
        intro m h
        obtain rfl : m = n := by omega
        refine ev_succ ?_
        have c1 : ¬ (((0 : Nat) : Int) > 0) := by omega
        simp only [spec_PathText.l0, c1, if_false]
        exact Ev.now _
      | succ d ih =>
        intro m h
        refine ev_succ ?_
        have c1 : ((d + 1 : Nat) : Int) > 0 := by omega
        have c2 : wrap64 (((d + 1 : Nat) : Int) - 1) = (d : Int) := by rw [w64 (by omega) (by omega)]; omega
        have c3 : (rep w m).size + w.size ≤ 9223372036854775807 := by
          rw [rep_size]
          have : m * w.size ≤ 24 * 12 := Nat.mul_le_mul (by omega) w3
          omega
        simp only [spec_PathText.l0, c1, c2, c3, if_true, rep_succ]
        exact ih (m + 1) (by omega)
    exact H n 0 (by omega)
  · unfold impl_PathText.f
    refine Ev.bind w2 (Ev.bind h2 ?_)
    have c1 : (0 : Int) ≤ (n : Int) := by omega
    have c2 : (n : Int) ≤ 9223372036854775807 := by omega
    have c4 : ((n : Int)).toNat = n := by omega
    have c3 : (wordX p q).size * n ≤ 140737488355328 := by
      have : (wordX p q).size * n ≤ 12 * 24 := Nat.mul_le_mul w3 hn
      omega
    simp only [strings_Repeat.f, c1, c2, c3, c4, if_true, Option.bind_some]
    exact Ev.now _
theorem squares_both (r u : List Int) (s p q : Int) : ∃ (l : List Nat) (b : Bool), (l.length ≤ 288 ∧ (∀ x ∈ l, x < r.length) ∧ (b = true ↔ okP r u s p q)) ∧ (b = true → ∃ n : Nat, 1 ≤ n ∧ n ≤ 24 ∧ itr (pathL (N r) (N u) (slopeWordI p q)) n s.toNat = s.toNat ∧ Ev (fun k => spec_PathRounds.f k r u s p q) (n : Int) ∧ l = tab (n * (slopeWordI p q).size) (fun j => wk (N r) (N u) (rep (slopeWordI p q) n) j s.toNat)) ∧ (b = false → l = []) ∧ Ev (fun k => spec_PathSquares.f k r u s p q) (I l, b) ∧ Ev (fun k => impl_PathSquares.f k r u s p q) (I l, b) := by
  obtain ⟨n, ⟨hn, hy, hno⟩, e0, e1, e2⟩ := pathText_full r u s p q
  by_cases ho : okP r u s p q
  · obtain ⟨k1, k2⟩ := hy ho
    obtain ⟨o1, o2, o3, o4⟩ := ho
    have hsz := word_pos o2
    obtain ⟨w1, w2, w3⟩ := words_ev o2
    have ex : wordX p q = slopeWordI p q := if_pos o2
    rw [ex] at e1 e2
    have o1' := o1
    obtain ⟨r, u, rfl, rfl, hs⟩ := surf_nat o1
    obtain ⟨s, rfl⟩ : ∃ t : Nat, s = t := ⟨s.toNat, by omega⟩
    rw [N_I, N_I] at k2 ⊢
    have o4' : s < r.length := by rw [I_len] at o4; omega
    have es : ((s : Int)).toNat = s := by omega
    rw [es] at k2 ⊢
    have ok : okP (I r) (I u) (s : Int) p q := ⟨o1', o2, o3, o4⟩
    have L288 : n * (slopeWordI p q).size ≤ 24 * 12 := Nat.mul_le_mul hn w3
    have hpos : 1 ≤ n * (slopeWordI p q).size := Nat.mul_pos k1 hsz
    refine ⟨tab (n * (slopeWordI p q).size) (fun j => wk r u (rep (slopeWordI p q) n) j s), true, ⟨by rw [tab_len]; omega, ?_, ?_⟩, fun _ => ⟨n, k1, hn, k2, e0, rfl⟩, fun h => by simp at h, ?_, ?_⟩
    · intro x hx
      unfold tab at hx
      obtain ⟨j, _, rfl⟩ := List.mem_map.mp hx
      rw [I_len]
      exact wk_lt hs _ _ o4'
    · simp [ok]
    · unfold spec_PathSquares.f
      have hok : Ev (fun k => spec_l13Ok.f k (I r) (I u) (s : Int) p q) true := by
        unfold spec_l13Ok.f
        refine Ev.bind (spec_surf _ _) ?_
        have c1 : (s : Int) ≥ 0 := by omega
        have c2 : (s : Int) < (r.length : Int) := by omega
        simp only [o1', c1, c2, I_len', if_true]
        have := (slopes_ev p q).1
        rw [o2] at this
        exact Ev.bind this (Ev.now _)
      refine Ev.bind hok ?_
      simp only [if_true]
      refine Ev.bind w1 (Ev.bind e0 ?_)
      generalize slopeWordI p q = w at *
      have A : ∀ d m : Nat, m + d = n → Ev (fun k => spec_PathSquares.l0 k w (I (tab (m * w.size) (fun j => wk r u (rep w n) j s))) ((wk r u (rep w n) (m * w.size) s : Nat) : Int) (d : Int) (I r) (I u)) (I (tab (n * w.size) (fun j => wk r u (rep w n) j s)), true) := by
        intro d
        induction d with
        | zero =>
          intro m h
          obtain rfl : m = n := by omega
          refine ev_succ ?_
          have c1 : ¬ (((0 : Nat) : Int) > 0) := by omega
          simp only [spec_PathSquares.l0, c1, if_false]
          exact Ev.now _
        | succ d ih =>
          intro m h
          refine ev_succ ?_
          have c1 : ((d + 1 : Nat) : Int) > 0 := by omega
          simp only [spec_PathSquares.l0, c1, if_true]
          have hm : m * w.size ≤ 24 * 12 := Nat.mul_le_mul (by omega) w3
          have B : ∀ e i : Nat, i + e = w.size → Ev (fun k => spec_PathSquares.l1 k w (I (tab (m * w.size + i) (fun j => wk r u (rep w n) j s))) ((wk r u (rep w n) (m * w.size + i) s : Nat) : Int) ((d + 1 : Nat) : Int) (i : Int) (I r) (I u)) (I (tab (n * w.size) (fun j => wk r u (rep w n) j s)), true) := by
            intro e
            induction e with
            | zero =>
              intro i hi
              obtain rfl : i = w.size := by omega
              refine ev_succ ?_
              have c2 : ¬ ((w.size : Int) < (w.size : Int)) := by omega
              have c3 : wrap64 (((d + 1 : Nat) : Int) - 1) = (d : Int) := by rw [w64 (by omega) (by omega)]; omega
              have c4 : m * w.size + w.size = (m + 1) * w.size := by rw [Nat.succ_mul]
              simp only [spec_PathSquares.l1, c2, c3, c4, if_false]
              exact ih (m + 1) (by omega)
            | succ e ihe =>
              intro i hi
              refine ev_succ ?_
              have c2 : (i : Int) < (w.size : Int) := by omega
              have c4 : (0 : Int) ≤ (i : Int) := Int.natCast_nonneg i
              have c5 : (I (tab (m * w.size + i) (fun j => wk r u (rep w n) j s))).length < 17592186044416 := by
                rw [I_len, tab_len]
                have h12 : i ≤ 12 := by omega
                clear ihe ih c2 c4 hi
                exact Nat.lt_of_le_of_lt (Nat.add_le_add hm h12) (by decide)
              have c3 := w64s i (by omega)
              have hl := wk_lt hs (rep w n) (m * w.size + i) o4'
              have c6 : (0 : Int) ≤ ((wk r u (rep w n) (m * w.size + i) s : Nat) : Int) := by omega
              have c7 : ((wk r u (rep w n) (m * w.size + i) s : Nat) : Int) < (r.length : Int) := by omega
              have c8 : ((wk r u (rep w n) (m * w.size + i) s : Nat) : Int) < (u.length : Int) := by rw [hs.eq]; omega
              have e1 : tab (m * w.size + i) (fun j => wk r u (rep w n) j s) ++ [wk r u (rep w n) (m * w.size + i) s] = tab (m * w.size + (i + 1)) (fun j => wk r u (rep w n) j s) := tab_snoc _ _
              have hb := rep_bt w (n := n) (m := m) (i := i) (by omega) (by omega)
              have st : wk r u (rep w n) (m * w.size + (i + 1)) s = if bt w (i : Int) = 114 then g r (wk r u (rep w n) (m * w.size + i) s) else g u (wk r u (rep w n) (m * w.size + i) s) := by
                rw [← hb]
                rfl
              have key := ihe (i + 1) (by omega)
              rw [st] at key
              by_cases hc : bt w (i : Int) = 114
              · rw [if_pos hc] at key
                simp only [spec_PathSquares.l1, c2, c3, c4, c5, c6, c7, hc, I_len', rdI, I_snoc, e1, Option.bind_some, if_true]
                exact key
              · rw [if_neg hc] at key
                simp only [spec_PathSquares.l1, c2, c3, c4, c5, c6, c8, hc, I_len', rdI, I_snoc, e1, Option.bind_some, if_true, if_false]
                exact key
          exact B w.size 0 (by omega)
      have := A n 0 (by omega)
      simp only [Nat.zero_mul] at this
      exact this
    · unfold impl_PathSquares.f
      refine Ev.bind e2 ?_
      have hz := rep_size (slopeWordI p q) n
      have c0 : ¬ ((rep (slopeWordI p q) n).toList = ([] : List UInt8)) := by
        rw [toList_nil, hz]
        omega
      simp only [c0, if_false]
      generalize slopeWordI p q = w at *
      have A : ∀ d j : Nat, j + d = n * w.size → Ev (fun k => impl_PathSquares.l0 k ((wk r u (rep w n) j s : Nat) : Int) (rep w n) (I (tab j (fun j => wk r u (rep w n) j s))) (j : Int) (I r) (I u)) (I (tab (n * w.size) (fun j => wk r u (rep w n) j s)), true) := by
        intro d
        induction d with
        | zero =>
          intro j h
          obtain rfl : j = n * w.size := by omega
          refine ev_succ ?_
          have c1 : ¬ (((n * w.size : Nat) : Int) < ((rep w n).size : Int)) := by rw [hz]; omega
          simp only [impl_PathSquares.l0, c1, if_false]
          exact Ev.now _
        | succ d ih =>
          intro j h
          refine ev_succ ?_
          have c1 : (j : Int) < ((rep w n).size : Int) := by rw [hz]; omega
          have c2 : (I (tab j (fun j => wk r u (rep w n) j s))).length < 17592186044416 := by rw [I_len, tab_len]; omega
          have c4 : (0 : Int) ≤ (j : Int) := Int.natCast_nonneg j
          have c3 := w64s j (by omega)
          have hl := wk_lt hs (rep w n) j o4'
          have e1 : tab j (fun j => wk r u (rep w n) j s) ++ [wk r u (rep w n) j s] = tab (j + 1) (fun j => wk r u (rep w n) j s) := tab_snoc _ _
          simp only [impl_PathSquares.l0, c1, c2, c3, c4, if_true, I_snoc, e1]
          rw [step_ev hs hl]
          exact ih (j + 1) (by omega)
      exact A (n * w.size) 0 (by omega)
  · refine ⟨[], false, ⟨by simp, by simp, by simp [ho]⟩, fun h => by simp at h, fun _ => rfl, ?_, ?_⟩
    · unfold spec_PathSquares.f
      have hok : Ev (fun k => spec_l13Ok.f k r u s p q) false := by
        unfold spec_l13Ok.f
        refine Ev.bind (spec_surf _ _) ?_
        by_cases h1 : surfB r u = true
        · by_cases h3 : s ≥ 0
          · by_cases h4 : s < (r.length : Int)
            · have h2 : slopeOkI p q = false := Bool.eq_false_iff.mpr (fun h2 => ho ⟨h1, h2, h3, h4⟩)
              simp only [h1, h3, h4, if_true]
              have := (slopes_ev p q).1
              rw [h2] at this
              exact Ev.bind this (Ev.now _)
            · simp only [h1, h3, h4, if_true, if_false]
              exact Ev.now _
          · simp only [h1, h3, if_true, if_false]
            exact Ev.now _
        · simp only [h1, Bool.false_eq_true, if_false]
          exact Ev.now _
      refine Ev.bind hok ?_
      simp only [Bool.false_eq_true, if_false]
      exact Ev.now _
    · unfold impl_PathSquares.f
      refine Ev.bind e2 ?_
      have c0 : (rep (wordX p q) n).toList = ([] : List UInt8) := by
        rw [toList_nil, rep_size, hno ho, Nat.zero_mul]
      simp only [c0, if_true]
      exact Ev.now _
end Go.Proofs.Ytbdnellgioimbaa.M
end
section
/- Numbers drawn out of a code. No conditions. -/
namespace Go.Proofs.Ytbdnellgioimbaa.M
set_option linter.unusedVariables false
set_option linter.unusedSimpArgs false
open Go.RowKit Go.Proofs.YtbdnellgioimbaaW.PrintWords Go.Proofs.YtbdnellgioimbaaW.PrintLast Go.Proofs.YtbdnellgioimbaaW.PrintMore Go.Proofs.Ytbdnellgioimbaa.A
theorem and255 (n : Int) : Go.bits .and .i64 n 255 = n % 256 := by
  have h : (BitVec.ofInt 64 255).toNat = 2 ^ 8 - 1 := by decide
  have key : (BitVec.ofInt 64 n &&& BitVec.ofInt 64 255).toNat = (n % ((2 ^ 64 : Nat) : Int)).toNat % 2 ^ 8 := by
    rw [BitVec.toNat_and, BitVec.toNat_ofInt, h, Nat.and_two_pow_sub_one_eq_mod]
  show IntKind.i64.wrap ((BitVec.ofInt 64 n &&& BitVec.ofInt 64 255).toNat : Nat) = n % 256
  rw [key, IntKind.wrap_i64]
  omega
theorem byte_draw (b : List Int) (i h : Int) (hi : 0 ≤ i) (hl : i ≤ b.length) (hb : b.length ≤ 1000000000) : ∃ x i' h', spec_l01Byte.f b i h = some (x, i', h') ∧ 0 ≤ x ∧ x ≤ 255 ∧ 0 ≤ i' ∧ i' ≤ b.length := by
  unfold spec_l01Byte.f
  by_cases c : i < (b.length : Int)
  · have e : wrap64 (i + 1) = i + 1 := w64 (by omega) (by omega)
    simp only [c, hi, if_true, and255, e]
    exact ⟨_, _, _, rfl, by omega, by omega, by omega, by omega⟩
  · simp only [c, if_false, and255]
    exact ⟨_, _, _, rfl, by omega, by omega, by omega, by omega⟩
theorem below_draw (b : List Int) (i h a : Int) (hi : 0 ≤ i) (hl : i ≤ b.length) (hb : b.length ≤ 1000000000) (h0 : 0 < a) (h1 : a ≤ 256) : ∃ x i' h', spec_l01Below.f b i h a = some (x, i', h') ∧ 0 ≤ x ∧ x < a ∧ 0 ≤ i' ∧ i' ≤ b.length := by
  obtain ⟨x, i', h', e, x0, x1, j0, j1⟩ := byte_draw b i h hi hl hb
  unfold spec_l01Below.f
  have c1 : ¬ a ≤ 0 := by omega
  have c2 : ¬ a = 0 := by omega
  simp only [c1, h1, e, c2, if_true, if_false, Option.bind_some]
  refine ⟨_, _, _, rfl, ?_, ?_, j0, j1⟩
  · rw [Int.tmod_eq_emod_of_nonneg x0]
    exact Int.emod_nonneg _ c2
  · rw [Int.tmod_eq_emod_of_nonneg x0]
    exact Int.emod_lt_of_pos _ h0
theorem new_draw (b : List Int) (hb : b.length ≤ 1000000000) : ∃ h, Ev (fun k => spec_l01New.f k b) (b, 0, h) := by
  unfold spec_l01New.f
  have H : ∀ (d i : Nat) (x : Int), i + d = b.length → ∃ h, Ev (fun k => spec_l01New.l0 k b x (i : Int)) (b, 0, h) := by
    intro d
    induction d with
    | zero =>
      intro i x hi
      refine ⟨x, ev_succ ?_⟩
      have c1 : ¬ ((i : Int) < (b.length : Int)) := by omega
      simp only [spec_l01New.l0, c1, if_false]
      exact Ev.now _
    | succ d ih =>
      intro i x hi
      have c1 : (i : Int) < (b.length : Int) := by omega
      have c2 : (0 : Int) ≤ (i : Int) := by omega
      have c3 := w64s i (by omega)
      by_cases c4 : (i : Int) < 4000
      · obtain ⟨h, e⟩ := ih (i + 1) (Go.bits .and .i64 (wrap64 ((wrap64 ((wrap64 (x * 109)) + (wrap64 (rd b (i : Int))))) + 7)) 1073741823) (by omega)
        refine ⟨h, ev_succ ?_⟩
        simp only [spec_l01New.l0, c1, c2, c3, c4, if_true]
        exact e
      · refine ⟨x, ev_succ ?_⟩
        simp only [spec_l01New.l0, c1, c4, if_true, if_false]
        exact Ev.now _
  exact H b.length 0 _ (by omega)
theorem skip_draw (b : List Int) (hb : b.length ≤ 1000000000) (n : Nat) (hn : n ≤ 1000) : ∃ i h, 0 ≤ i ∧ i ≤ (b.length : Int) ∧ Ev (fun k => spec_l20New.f k b (n : Int)) (b, i, h) := by
  unfold spec_l20New.f
  obtain ⟨h0, e0⟩ := new_draw b hb
  have H : ∀ (d j : Nat) (i h : Int), j + d = n → 0 ≤ i → i ≤ (b.length : Int) → ∃ i' h', 0 ≤ i' ∧ i' ≤ (b.length : Int) ∧ Ev (fun k => spec_l20New.l0 k b i h (n : Int) (j : Int)) (b, i', h') := by
    intro d
    induction d with
    | zero =>
      intro j i h hj i0 i1
      obtain rfl : j = n := by omega
      refine ⟨i, h, i0, i1, ev_succ ?_⟩
      have c1 : ¬ ((j : Int) < (j : Int)) := by omega
      simp only [spec_l20New.l0, c1, if_false]
      exact Ev.now _
    | succ d ih =>
      intro j i h hj i0 i1
      obtain ⟨x, i', h', e, _, _, j0, j1⟩ := byte_draw b i h i0 i1 hb
      obtain ⟨i2, h2, k0, k1, k2⟩ := ih (j + 1) i' h' (by omega) j0 j1
      refine ⟨i2, h2, k0, k1, ev_succ ?_⟩
      have c1 : (j : Int) < (n : Int) := by omega
      have c3 := w64s j (by omega)
      simp only [spec_l20New.l0, c1, e, c3, if_true, Option.bind_some]
      exact k2
  obtain ⟨i, h, i0, i1, e1⟩ := H n 0 0 h0 (by omega) (by omega) (by omega)
  exact ⟨i, h, i0, i1, Ev.bind e0 e1⟩
end Go.Proofs.Ytbdnellgioimbaa.M
end
section
/- Slopes drawn out of a code. No conditions. -/
namespace Go.Proofs.Ytbdnellgioimbaa.M
set_option linter.unusedVariables false
set_option linter.unusedSimpArgs false
open Go.RowKit Go.Proofs.YtbdnellgioimbaaW.PrintWords Go.Proofs.YtbdnellgioimbaaW.PrintLast Go.Proofs.YtbdnellgioimbaaW.PrintMore Go.Proofs.Ytbdnellgioimbaa.A
def slopeOf (p q : Int) : Option (Int × Int) := if (wrap64 (p + q)) = 0 then ((spec_l08Gcd.f 60 1 q).bind fun t458 => (if t458 = 0 then (none) else (some (wrap64 (Int.tdiv (1 : Int) t458), wrap64 (Int.tdiv q t458))))) else ((spec_l08Gcd.f 60 p q).bind fun t459 => (if t459 = 0 then (none) else (some (wrap64 (Int.tdiv p t459), wrap64 (Int.tdiv q t459)))))
theorem slopeOf_ev (a c : Nat) : ∀ z, slopeOf (a : Int) (c : Int) = some z → Ev (fun k => if (wrap64 ((a : Int) + (c : Int))) = 0 then ((spec_l08Gcd.f k 1 (c : Int)).bind fun t458 => (if t458 = 0 then (none) else (some (wrap64 (Int.tdiv (1 : Int) t458), wrap64 (Int.tdiv (c : Int) t458))))) else ((spec_l08Gcd.f k (a : Int) (c : Int)).bind fun t459 => (if t459 = 0 then (none) else (some (wrap64 (Int.tdiv (a : Int) t459), wrap64 (Int.tdiv (c : Int) t459)))))) z := by
  intro z hz
  refine Ev.of (k := 60) (fun k => ?_) hz
  exact LeO.ite (LeO.bind (spec_l08Gcd.mono _ _ _) (fun _ => LeO.refl _)) (LeO.bind (spec_l08Gcd.mono _ _ _) (fun _ => LeO.refl _))
def okOpt : Option (Int × Int) → Bool
  | some t => slopeOkI t.1 t.2
  | none => false
theorem slopeOf_tab : ∀ a : Fin 7, ∀ b : Fin 6, okOpt (slopeOf (a.val : Int) (b.val : Int)) = true := by decide +kernel
theorem slopeOf_ok (a c : Nat) (ha : a < 7) (hc : c < 6) : ∃ p q : Fin 13, slopeOf (a : Int) (c : Int) = some ((p.val : Int), (q.val : Int)) ∧ slopeOkI (p.val : Int) (q.val : Int) = true := by
  have t : okOpt (slopeOf (a : Int) (c : Int)) = true := slopeOf_tab ⟨a, ha⟩ ⟨c, hc⟩
  generalize slopeOf (a : Int) (c : Int) = z at t ⊢
  cases z with
  | none => cases t
  | some z =>
    obtain ⟨p, q⟩ := z
    change slopeOkI p q = true at t
    obtain ⟨⟨p0, p1⟩, q0, q1⟩ := slope_in t
    refine ⟨⟨p.toNat, by omega⟩, ⟨q.toNat, by omega⟩, ?_, ?_⟩
    · dsimp only
      rw [Int.toNat_of_nonneg p0, Int.toNat_of_nonneg q0]
    · dsimp only
      rw [Int.toNat_of_nonneg p0, Int.toNat_of_nonneg q0]
      exact t
theorem makeSlope_ev (b : List Int) (hb : b.length ≤ 1000000000) (n : Nat) (hn : n ≤ 1000) : ∃ p q : Fin 13, slopeOkI (p.val : Int) (q.val : Int) = true ∧ Ev (fun k => spec_MakeSlope.f k b (n : Int)) ((p.val : Int), (q.val : Int)) := by
  obtain ⟨i, h, i0, i1, e⟩ := skip_draw b hb n hn
  obtain ⟨x, i2, h2, e2, x0, x1, j0, j1⟩ := below_draw b i h 7 i0 i1 hb (by omega) (by omega)
  obtain ⟨y, i3, h3, e3, y0, y1, _, _⟩ := below_draw b i2 h2 6 j0 j1 hb (by omega) (by omega)
  obtain ⟨p, q, s1, s2⟩ := slopeOf_ok x.toNat y.toNat (by omega) (by omega)
  have key := slopeOf_ev x.toNat y.toNat _ s1
  rw [Int.toNat_of_nonneg x0, Int.toNat_of_nonneg y0] at key
  refine ⟨p, q, s2, ?_⟩
  unfold spec_MakeSlope.f
  refine Ev.bind e ?_
  simp only [e2, e3, Option.bind_some]
  exact key
end Go.Proofs.Ytbdnellgioimbaa.M
end
section
/- Plain mathematics: surfaces, and what the four letters make of them. No conditions. -/
namespace Go.Proofs.Ytbdnellgioimbaa.M
set_option linter.unusedVariables false
set_option linter.unusedSimpArgs false
theorem st1_mem {out : List Nat} {x y : Nat} : y ∈ st1 out x ↔ y ∈ out ∨ y = x := by
  unfold st1
  split
  · rename_i h
    constructor
    · exact Or.inl
    · rintro (h' | rfl)
      · exact h'
      · exact h
  · simp
theorem st1_g {out : List Nat} {x i : Nat} (h : i < out.length) : g (st1 out x) i = g out i := by
  unfold st1
  split
  · rfl
  · unfold g
    rw [List.getD_eq_getElem?_getD, List.getD_eq_getElem?_getD, List.getElem?_append_left h]
theorem st1_le (out : List Nat) (x : Nat) : out.length ≤ (st1 out x).length := by
  unfold st1
  split
  · exact Nat.le_refl _
  · simp
theorem bfs_ind {r u : List Nat} {n : Nat} (S : Nat → Prop) (h1 : ∀ x, x < n → S x → S (g r x) ∧ g r x < n) (h2 : ∀ x, x < n → S x → S (g u x) ∧ g u x < n) : ∀ (F a : Nat) (out : List Nat), (∀ x ∈ out, S x ∧ x < n) → ∀ x ∈ bfs r u F a out, S x ∧ x < n := by
  intro F
  induction F with
  | zero => intro a out h; exact h
  | succ F ih =>
    intro a out h
    unfold bfs
    split
    · rename_i ha
      obtain ⟨s, l⟩ := h _ (g_mem ha)
      refine ih _ _ (fun x hx => ?_)
      rcases st1_mem.mp hx with hx | rfl
      · rcases st1_mem.mp hx with hx | rfl
        · exact h x hx
        · exact h1 _ l s
      · exact h2 _ l s
    · exact h
theorem bfs_sub {r u : List Nat} : ∀ (F a : Nat) (out : List Nat), ∀ x ∈ out, x ∈ bfs r u F a out := by
  intro F
  induction F with
  | zero => intro a out x h; exact h
  | succ F ih =>
    intro a out x h
    unfold bfs
    split
    · exact ih _ _ x (st1_mem.mpr (.inl (st1_mem.mpr (.inl h))))
    · exact h
theorem bfs_rinv {r u : List Nat} {n : Nat} (h1 : ∀ x, x < n → g r x < n) (h2 : ∀ x, x < n → g u x < n) : ∀ (F a : Nat) (out : List Nat), RInv n out → RInv n (bfs r u F a out) := by
  intro F
  induction F with
  | zero => intro a out h; exact h
  | succ F ih =>
    intro a out h
    unfold bfs
    split
    · rename_i ha
      have hx := h.g ha
      exact ih _ _ ((h.st (h1 _ hx)).st (h2 _ hx))
    · exact h
theorem bfs_shut {r u : List Nat} {n : Nat} (h1 : ∀ x, x < n → g r x < n) (h2 : ∀ x, x < n → g u x < n) : ∀ (F a : Nat) (out : List Nat), RInv n out → a ≤ out.length → n < F + a → (∀ i, i < a → g r (g out i) ∈ out ∧ g u (g out i) ∈ out) → ∀ x ∈ bfs r u F a out, g r x ∈ bfs r u F a out ∧ g u x ∈ bfs r u F a out := by
  intro F
  induction F with
  | zero =>
    intro a out h ha hF
    have := h.le
    omega
  | succ F ih =>
    intro a out h ha hF hc
    unfold bfs
    split
    · rename_i ha'
      have hx := h.g ha'
      have r1 := h.st (h1 _ hx)
      have l1 := st1_le out (g r (g out a))
      have l2 := st1_le (st1 out (g r (g out a))) (g u (g out a))
      refine ih _ _ (r1.st (h2 _ hx)) (by omega) (by omega) (fun i hi => ?_)
      have e : g (st1 (st1 out (g r (g out a))) (g u (g out a))) i = g out i := by
        rw [st1_g (by omega), st1_g (by omega)]
      rw [e]
      by_cases hia : i < a
      · exact ⟨st1_mem.mpr (.inl (st1_mem.mpr (.inl (hc i hia).1))), st1_mem.mpr (.inl (st1_mem.mpr (.inl (hc i hia).2)))⟩
      · obtain rfl : i = a := by omega
        exact ⟨st1_mem.mpr (.inl (st1_mem.mpr (.inr rfl))), st1_mem.mpr (.inr rfl)⟩
    · intro x hx
      obtain ⟨i, hi, rfl⟩ := mem_g hx
      exact hc i (by omega)
theorem nodup_sub_len5 : ∀ (a b : List Nat), a.Nodup → (∀ x ∈ a, x ∈ b) → a.length ≤ b.length := by
  intro a
  induction a with
  | nil => intro b _ _; simp
  | cons x a ih =>
    intro b hn h
    obtain ⟨h1, h2⟩ := List.nodup_cons.mp hn
    have hx : x ∈ b := h x (by simp)
    have := ih (b.erase x) h2 (fun y hy => (List.mem_erase_of_ne (fun e => h1 (by rw [← e]; exact hy))).mpr (h y (by simp [hy])))
    rw [List.length_erase_of_mem hx] at this
    have hp := List.length_pos_of_mem hx
    simp
    omega
def Tr (r u : List Nat) : Prop := ∀ S : Nat → Prop, S 0 → (∀ x, x < r.length → S x → S (g r x)) → (∀ x, x < r.length → S x → S (g u x)) → ∀ x, x < r.length → S x
theorem sf_of_tr {r u : List Nat} (pr : IsP r) (pu : IsP u) (le : r.length ≤ 24) (eq : u.length = r.length) (pos : 0 < r.length) (h : Tr r u) : Sf r u := by
  have b1 : ∀ x, x < r.length → g r x < r.length := fun x hx => g_lt pr hx
  have b2 : ∀ x, x < r.length → g u x < r.length := fun x hx => by have := g_lt pu (i := x) (by omega); omega
  have hri : RInv r.length (reach r u 0) := bfs_rinv b1 b2 _ _ _ ⟨by simp, by simpa using pos⟩
  have hsh := bfs_shut b1 b2 (r.length + 1) 0 [0] ⟨by simp, by simpa using pos⟩ (by simp) (by omega) (fun i hi => by omega)
  have hall : ∀ x, x < r.length → x ∈ reach r u 0 := h (fun x => x ∈ reach r u 0) (bfs_sub _ _ _ 0 (by simp)) (fun x _ hx => (hsh x hx).1) (fun x _ hx => (hsh x hx).2)
  refine ⟨pr, pu, le, eq, pos, ?_⟩
  have l1 := hri.le
  have l2 := nodup_sub_len5 (List.range r.length) (reach r u 0) List.nodup_range (fun x hx => hall x (List.mem_range.mp hx))
  rw [List.length_range] at l2
  omega
theorem Sf.tr {r u : List Nat} (hs : Sf r u) : Tr r u := by
  intro S s0 h1 h2 x hx
  have b1 : ∀ x, x < r.length → g r x < r.length := fun x hx => g_lt hs.pr hx
  have b2 : ∀ x, x < r.length → g u x < r.length := fun x hx => by have := g_lt hs.pu (i := x) (by rw [hs.eq]; exact hx); rw [hs.eq] at this; exact this
  have hri : RInv r.length (reach r u 0) := bfs_rinv b1 b2 _ _ _ ⟨by simp, by simpa using hs.pos⟩
  have hp : IsP (reach r u 0) := ⟨fun x hx => by rw [hs.all]; exact hri.lt x hx, hri.nd⟩
  have hm := mem_all hp (x := x) (by rw [hs.all]; exact hx)
  have h0 : ∀ y ∈ [0], S y ∧ y < r.length := by
    intro y hy
    obtain rfl : y = 0 := by simpa using hy
    exact ⟨s0, hs.pos⟩
  exact (bfs_ind S (fun x hx h => ⟨h1 x hx h, b1 x hx⟩) (fun x hx h => ⟨h2 x hx h, b2 x hx⟩) _ _ [0] h0 x hm).1
theorem sf_T {r u : List Nat} (hs : Sf r u) : Sf r (thn (inv r) u) := by
  have h1 : (inv r).length = u.length := by rw [inv_len, hs.eq]
  refine sf_of_tr hs.pr (isP_thn (isP_inv hs.pr) hs.pu h1) hs.le (by rw [thn_len, inv_len]) hs.pos (fun S s0 k1 k2 => hs.tr S s0 k1 (fun x hx hsx => ?_))
  have := k2 (g r x) (g_lt hs.pr hx) (k1 x hx hsx)
  rw [g_thn (by rw [inv_len]; exact g_lt hs.pr hx), g_inv (g_lt hs.pr hx), ix_g hs.pr hx] at this
  exact this
end Go.Proofs.Ytbdnellgioimbaa.M
end
section
/- Drawn surfaces. No conditions. -/
namespace Go.Proofs.Ytbdnellgioimbaa.M
set_option linter.unusedVariables false
set_option linter.unusedSimpArgs false
open Go.RowKit Go.Proofs.YtbdnellgioimbaaW.PrintWords Go.Proofs.YtbdnellgioimbaaW.PrintLast Go.Proofs.YtbdnellgioimbaaW.PrintMore Go.Proofs.Ytbdnellgioimbaa.A
theorem perm_draw (b : List Int) (hb : b.length ≤ 1000000000) (n : Nat) (hn : n ≤ 100) (i h : Int) (hi : 0 ≤ i) (hl : i ≤ b.length) : ∃ l i' h', l.length = n ∧ 0 ≤ i' ∧ i' ≤ (b.length : Int) ∧ Ev (fun k => spec_l02Draw.f k b i h (n : Int)) (l, i', h') := by
  unfold spec_l02Draw.f
  have H : ∀ (d j : Nat) (l : List Int) (i h : Int), j + d = n → l.length = j → 0 ≤ i → i ≤ (b.length : Int) → ∃ l' i' h', l'.length = n ∧ 0 ≤ i' ∧ i' ≤ (b.length : Int) ∧ Ev (fun k => spec_l02Draw.l0 k (n : Int) l (j : Int) b i h) (l', i', h') := by
    intro d
    induction d with
    | zero =>
      intro j l i h hj hl i0 i1
      obtain rfl : j = n := by omega
      refine ⟨l, i, h, hl, i0, i1, ev_succ ?_⟩
      have c1 : ¬ ((j : Int) < (j : Int)) := by omega
      simp only [spec_l02Draw.l0, c1, if_false]
      exact Ev.now _
    | succ d ih =>
      intro j l i h hj hl i0 i1
      obtain ⟨x, i', h', e, x0, x1, j0, j1⟩ := below_draw b i h ((j + 1 : Nat) : Int) i0 i1 hb (by omega) (by omega)
      have hlen : (l ++ [(j : Int)]).length = j + 1 := by simp [hl]
      obtain ⟨l2, i2, h2, k0, k1, k2, k3⟩ := ih (j + 1) (((l ++ [(j : Int)]).set ((j : Int)).toNat (rd (l ++ [(j : Int)]) x)).set x.toNat (j : Int)) i' h' (by omega) (by rw [List.length_set, List.length_set, hlen]) j0 j1
      refine ⟨l2, i2, h2, k0, k1, k2, ev_succ ?_⟩
      have c1 : (j : Int) < (n : Int) := by omega
      have c2 : l.length < 17592186044416 := by omega
      have c4 : x < ((l ++ [(j : Int)]).length : Int) := by rw [hlen]; exact x1
      have c5 : (0 : Int) ≤ (j : Int) := by omega
      have c6 : (j : Int) < ((l ++ [(j : Int)]).length : Int) := by rw [hlen]; omega
      have c3 := w64s j (by omega)
      simp only [spec_l02Draw.l0, c1, c2, c3, e, x0, c4, c5, c6, if_true, Option.bind_some]
      exact k3
  exact H n 0 [] i h (by omega) rfl hi hl
def smallS : Option (List Int × List Int × Bool) → Bool
  | some z => surfB z.1 z.2.1 && decide (z.1.length ≤ 12)
  | none => false
theorem smallS_ok : ∀ {z : Option (List Int × List Int × Bool)}, smallS z = true → ∃ r u b, z = some (I r, I u, b) ∧ Sf r u ∧ r.length ≤ 12
  | none, h => by cases h
  | some (x, y, b), h => by
    have h' := (Bool.and_eq_true _ _).mp h
    obtain ⟨r, u, e1, e2, hs⟩ := surf_nat h'.1
    have e1 : x = I r := e1
    have e2 : y = I u := e2
    have h2 : x.length ≤ 12 := of_decide_eq_true h'.2
    refine ⟨r, u, b, by rw [e1, e2], hs, ?_⟩
    rw [e1, I_len] at h2
    exact h2
theorem ell_tab : ∀ a : Fin 6, ∀ b : Fin 5, 1 ≤ a.val → 1 ≤ b.val → smallS (spec_EllOf.f 400 (a.val : Int) (b.val : Int)) = true := by decide +kernel
theorem torus_tab : ∀ a : Fin 5, ∀ b : Fin 4, 1 ≤ a.val → 1 ≤ b.val → smallS (spec_TorusOf.f 400 (a.val : Int) (b.val : Int)) = true := by decide +kernel
theorem ell_ev (a b : Nat) (h1 : 1 ≤ a) (h2 : a ≤ 5) (h3 : 1 ≤ b) (h4 : b ≤ 4) : ∃ r u c, Ev (fun k => spec_EllOf.f k (a : Int) (b : Int)) (I r, I u, c) ∧ Sf r u ∧ r.length ≤ 12 := by
  obtain ⟨r, u, c, e, hs, hl⟩ := smallS_ok (ell_tab ⟨a, by omega⟩ ⟨b, by omega⟩ h1 h3)
  exact ⟨r, u, c, Ev.of (fun k => spec_EllOf.mono _ _ _) e, hs, hl⟩
theorem torus_ev (a b : Nat) (h1 : 1 ≤ a) (h2 : a ≤ 4) (h3 : 1 ≤ b) (h4 : b ≤ 3) : ∃ r u c, Ev (fun k => spec_TorusOf.f k (a : Int) (b : Int)) (I r, I u, c) ∧ Sf r u ∧ r.length ≤ 12 := by
  obtain ⟨r, u, c, e, hs, hl⟩ := smallS_ok (torus_tab ⟨a, by omega⟩ ⟨b, by omega⟩ h1 h3)
  exact ⟨r, u, c, Ev.of (fun k => spec_TorusOf.mono _ _ _) e, hs, hl⟩
theorem surf_draw (b : List Int) (hb : b.length ≤ 1000000000) (m : Nat) (h1 : 1 ≤ m) (h2 : m ≤ 5) (i h : Int) (hi : 0 ≤ i) (hl : i ≤ b.length) : ∃ r u i' h', (Sf r u ∧ r.length ≤ 12) ∧ Ev (fun k => spec_l03Draw.f k b i h (m : Int)) (I r, I u, i', h') := by
  obtain ⟨x, i1, h1', e, x0, x1, j0, j1⟩ := below_draw b i h (m : Int) hi hl hb (by omega) (by omega)
  unfold spec_l03Draw.f
  obtain ⟨n, hn⟩ : ∃ n : Nat, wrap64 (1 + x) = (n : Int) ∧ 1 ≤ n ∧ n ≤ 5 := ⟨(1 + x).toNat, by rw [w64 (by omega) (by omega)]; omega, by omega, by omega⟩
  obtain ⟨hn, n1, n5⟩ := hn
  simp only [e, Option.bind_some, hn]
  clear e hn
  have H : ∀ (d t : Nat) (i h : Int), t + d = 8 → 0 ≤ i → i ≤ (b.length : Int) → ∃ r u i' h', (Sf r u ∧ r.length ≤ 12) ∧ Ev (fun k => spec_l03Draw.l0 k (n : Int) (t : Int) b i h) (I r, I u, i', h') := by
    intro d
    induction d with
    | zero =>
      intro t i h ht i0 i1
      obtain rfl : t = 8 := by omega
      obtain ⟨r, u, c, e, hs, hl⟩ := ell_ev n 1 n1 n5 (by omega) (by omega)
      refine ⟨r, u, i, h, ⟨hs, hl⟩, ev_succ ?_⟩
      have c1 : ¬ (((8 : Nat) : Int) < 8) := by omega
      simp only [spec_l03Draw.l0, c1, if_false]
      exact Ev.bind e (Ev.now _)
    | succ d ih =>
      intro t i h ht i0 i1
      obtain ⟨p, i2, h2, pl, j0, j1, e1⟩ := perm_draw b hb n (by omega) i h i0 i1
      obtain ⟨q, i3, h3, ql, k0, k1, e2⟩ := perm_draw b hb n (by omega) i2 h2 j0 j1
      have c1 : (t : Int) < 8 := by omega
      have c2 := w64s t (by omega)
      by_cases hs : surfB p q = true
      · have hs' := hs
        obtain ⟨r, u, rfl, rfl, hsf⟩ := surf_nat hs
        rw [I_len] at pl
        refine ⟨r, u, i3, h3, ⟨hsf, by omega⟩, ev_succ ?_⟩
        simp only [spec_l03Draw.l0, c1, if_true]
        refine Ev.bind e1 (Ev.bind e2 (Ev.bind (spec_surf _ _) ?_))
        simp only [hs', if_true]
        exact Ev.now _
      · obtain ⟨r, u, i4, h4, hh, e4⟩ := ih (t + 1) i3 h3 (by omega) k0 k1
        refine ⟨r, u, i4, h4, hh, ev_succ ?_⟩
        simp only [spec_l03Draw.l0, c1, c2, if_true]
        refine Ev.bind e1 (Ev.bind e2 (Ev.bind (spec_surf _ _) ?_))
        simp only [hs, if_false]
        exact e4
  exact H 8 0 _ _ (by omega) j0 j1
theorem spec_shear {r u : List Nat} (hs : Sf r u) : Ev (fun k => spec_l05Shear.f k (I r) (I u)) (I r, I (thn (inv r) u)) := by
  have hle := hs.le
  unfold spec_l05Shear.f
  have c1 : ([] : List Int).length + (I r).length < 17592186044416 := by rw [I_len]; simp; omega
  simp only [Option.bind_some, c1, if_true, List.nil_append]
  refine Ev.bind (spec_inv hs.pr hs.le) (Ev.bind (spec_then (p := inv r) (q := u) (fun i hi => ?_) (by rw [inv_len]; omega)) (Ev.now _))
  have := g_lt (isP_inv hs.pr) hi
  rw [inv_len] at this
  rw [hs.eq]
  exact this
theorem makeSurf_ev (b : List Int) (hb : b.length ≤ 1000000000) : ∃ r u, Sf r u ∧ r.length ≤ 12 ∧ Ev (fun k => spec_MakeSurface.f k b) (I r, I u) := by
  obtain ⟨h0, e0⟩ := new_draw b hb
  unfold spec_MakeSurface.f
  obtain ⟨x, i1, h1, e1, x0, x1, j0, j1⟩ := below_draw b 0 h0 4 (by omega) (by omega) hb (by omega) (by omega)
  by_cases cx : x = 0
  · obtain ⟨y, i2, h2, e2, y0, y1, k0, k1⟩ := below_draw b i1 h1 4 j0 j1 hb (by omega) (by omega)
    obtain ⟨z, i3, h3, e3, z0, z1, l0, l1⟩ := below_draw b i2 h2 3 k0 k1 hb (by omega) (by omega)
    obtain ⟨v, i4, h4, e4, v0, v1, m0, m1⟩ := below_draw b i3 h3 4 l0 l1 hb (by omega) (by omega)
    obtain ⟨r, u, c, et, hs, hl⟩ := torus_ev (1 + y).toNat (1 + z).toNat (by omega) (by omega) (by omega) (by omega)
    have wy : wrap64 (1 + y) = (((1 + y).toNat : Nat) : Int) := by rw [w64 (by omega) (by omega)]; omega
    have wz : wrap64 (1 + z) = (((1 + z).toNat : Nat) : Int) := by rw [w64 (by omega) (by omega)]; omega
    have H : ∀ (n : Nat), n ≤ 4 → ∀ r u, Sf r u → r.length ≤ 12 → ∃ r' u', Sf r' u' ∧ r'.length ≤ 12 ∧ Ev (fun k => spec_MakeSurface.l0 k (n : Int) (I r) (I u)) (I r', I u') := by
      intro n
      induction n with
      | zero =>
        intro _ r u hs hl
        refine ⟨r, u, hs, hl, ev_succ ?_⟩
        have c1 : ¬ (((0 : Nat) : Int) > 0) := by omega
        simp only [spec_MakeSurface.l0, c1, if_false]
        exact Ev.now _
      | succ n ih =>
        intro hn r u hs hl
        obtain ⟨r', u', g1, g2, g3⟩ := ih (by omega) r _ (sf_T hs) hl
        refine ⟨r', u', g1, g2, ev_succ ?_⟩
        have c1 : ((n + 1 : Nat) : Int) > 0 := by omega
        have c2 : wrap64 (((n + 1 : Nat) : Int) - 1) = (n : Int) := by rw [w64 (by omega) (by omega)]; omega
        simp only [spec_MakeSurface.l0, c1, c2, if_true]
        exact Ev.bind (spec_shear hs) g3
    obtain ⟨r', u', g1, g2, g3⟩ := H v.toNat (by omega) r u hs hl
    rw [Int.toNat_of_nonneg v0] at g3
    refine ⟨r', u', g1, g2, Ev.bind e0 ?_⟩
    simp only [e1, e2, e3, e4, Option.bind_some, cx, wy, wz, if_true]
    exact Ev.bind et g3
  · by_cases cx1 : x = 1
    · obtain ⟨y, i2, h2, e2, y0, y1, k0, k1⟩ := below_draw b i1 h1 4 j0 j1 hb (by omega) (by omega)
      obtain ⟨z, i3, h3, e3, z0, z1, l0, l1⟩ := below_draw b i2 h2 4 k0 k1 hb (by omega) (by omega)
      obtain ⟨r, u, c, et, hs, hl⟩ := ell_ev (1 + y).toNat (1 + z).toNat (by omega) (by omega) (by omega) (by omega)
      have wy : wrap64 (1 + y) = (((1 + y).toNat : Nat) : Int) := by rw [w64 (by omega) (by omega)]; omega
      have wz : wrap64 (1 + z) = (((1 + z).toNat : Nat) : Int) := by rw [w64 (by omega) (by omega)]; omega
      refine ⟨r, u, hs, hl, Ev.bind e0 ?_⟩
      have c1 : ¬ ((1 : Int) = 0) := by omega
      simp only [e1, e2, e3, Option.bind_some, cx1, c1, wy, wz, if_true, if_false]
      exact Ev.bind et (Ev.now _)
    · obtain ⟨r, u, i2, h2, ⟨hs, hl⟩, e2⟩ := surf_draw b hb 5 (by omega) (by omega) i1 h1 j0 j1
      refine ⟨r, u, hs, hl, Ev.bind e0 ?_⟩
      simp only [e1, Option.bind_some, cx, cx1, if_false]
      exact Ev.bind e2 (Ev.now _)
end Go.Proofs.Ytbdnellgioimbaa.M
end
section
/- Plain mathematics: sums and periods. No conditions. -/
namespace Go.Proofs.Ytbdnellgioimbaa.M
set_option linter.unusedVariables false
set_option linter.unusedSimpArgs false
open Go.RowKit Go.Proofs.YtbdnellgioimbaaW.PrintWords Go.Proofs.YtbdnellgioimbaaW.PrintLast Go.Proofs.YtbdnellgioimbaaW.PrintMore
theorem w64n (x : Nat) (h : x ≤ 9000000000000000000) : wrap64 (x : Int) = (x : Int) := w64 (by omega) (by omega)
theorem w64add (x y : Nat) (h : x + y ≤ 9000000000000000000) : wrap64 ((x : Int) + (y : Int)) = ((x + y : Nat) : Int) := by rw [← Int.natCast_add]; exact w64n _ h
end Go.Proofs.Ytbdnellgioimbaa.M
end
section
/- Paths come back. No conditions. -/
namespace Go.Proofs.Ytbdnellgioimbaa.M
set_option linter.unusedVariables false
set_option linter.unusedSimpArgs false
open Go.RowKit Go.Proofs.YtbdnellgioimbaaW.PrintWords Go.Proofs.YtbdnellgioimbaaW.PrintLast Go.Proofs.YtbdnellgioimbaaW.PrintMore Go.Proofs.Ytbdnellgioimbaa.A
theorem makeNum_ev (b : List Int) (hb : b.length ≤ 1000000000) (n : Nat) (hn : n ≤ 1000) : ∃ x : Nat, x ≤ 65535 ∧ Ev (fun k => spec_MakeNum.f k b (n : Int)) (x : Int) := by
  obtain ⟨i, h, i0, i1, e⟩ := skip_draw b hb n hn
  obtain ⟨x, i2, h2, e2, x0, x1, j0, j1⟩ := byte_draw b i h i0 i1 hb
  obtain ⟨y, i3, h3, e3, y0, y1, _, _⟩ := byte_draw b i2 h2 j0 j1 hb
  have e4 : wrap64 (wrap64 (x * 256) + y) = (((x * 256 + y).toNat : Nat) : Int) := by
    rw [w64 (x := x * 256) (by omega) (by omega), w64 (by omega) (by omega)]
    omega
  refine ⟨(x * 256 + y).toNat, by omega, ?_⟩
  unfold spec_MakeNum.f
  refine Ev.bind e ?_
  simp only [e2, e3, Option.bind_some, e4]
  exact Ev.now _
theorem word_len : ∀ a : Fin 13, ∀ b : Fin 13, slopeOkI (a.val : Int) (b.val : Int) = true → (slopeWordI (a.val : Int) (b.val : Int)).size = a.val + b.val := by decide +kernel
theorem wk_rep {r u : List Nat} (w : ByteArray) {n : Nat} (s : Nat) : ∀ m, m < n → ∀ i, i ≤ w.size → wk r u (rep w n) (m * w.size + i) s = wk r u w i (wk r u (rep w n) (m * w.size) s) := by
  intro m hm i
  induction i with
  | zero => intro _; rfl
  | succ i ih =>
    intro hi
    have hb := rep_bt w (n := n) (m := m) (i := i) hm (by omega)
    have st : wk r u (rep w n) (m * w.size + (i + 1)) s = if bt w (i : Int) = 114 then g r (wk r u (rep w n) (m * w.size + i) s) else g u (wk r u (rep w n) (m * w.size + i) s) := by
      rw [← hb]
      rfl
    rw [st, ih (by omega)]
    rfl
theorem wk_back {r u : List Nat} (hs : Sf r u) (w : ByteArray) {n : Nat} {s : Nat} (h : s < r.length) : ∀ m, m ≤ n → wk r u (rep w n) (m * w.size) s = itr (pathL r u w) m s := by
  intro m
  induction m with
  | zero => intro _; rw [Nat.zero_mul]; rfl
  | succ m ih =>
    intro hm
    have hl : wk r u (rep w n) (m * w.size) s < r.length := wk_lt hs _ _ h
    rw [Nat.succ_mul, wk_rep w s m (by omega) w.size (Nat.le_refl _)]
    rw [ih (by omega)] at hl ⊢
    show _ = g (pathL r u w) (itr (pathL r u w) m s)
    unfold pathL
    rw [g_tab (by unfold pathL at hl; exact hl)]
theorem sum_set (c : List Nat) (x v : Nat) (h : x < c.length) : (c.set x v).sum + g c x = c.sum + v := by
  induction c generalizing x with
  | nil => simp at h
  | cons a c ih =>
    cases x with
    | zero => simp [g]; omega
    | succ x =>
      have := ih x (by simpa using h)
      simp only [List.set_cons_succ, List.sum_cons]
      have e : g (a :: c) (x + 1) = g c x := rfl
      rw [e]
      omega
theorem visits_count (l : List Nat) (n : Nat) (hn : n ≤ 24) (hl : l.length ≤ 288) (hlt : ∀ x ∈ l, x < n) : ∃ c : List Nat, c.length = n ∧ c.sum = l.length ∧ (∀ x ∈ l, 1 ≤ g c x) ∧ Ev (fun k => impl_Visits.l0 k (List.replicate n 0) (I l) (l.length : Int) 0) (I c) := by
  have H : ∀ d i : Nat, i + d = l.length → ∀ c : List Nat, c.length = n → c.sum = i → (∀ x ∈ l.take i, 1 ≤ g c x) → ∃ c' : List Nat, c'.length = n ∧ c'.sum = l.length ∧ (∀ x ∈ l, 1 ≤ g c' x) ∧ Ev (fun k => impl_Visits.l0 k (I c) (I l) (l.length : Int) (i : Int)) (I c') := by
    intro d
    induction d with
    | zero =>
      intro i hi c hc hsum hm
      obtain rfl : i = l.length := by omega
      rw [List.take_length] at hm
      refine ⟨c, hc, hsum, hm, ev_succ ?_⟩
      have c1 : ¬ ((l.length : Int) < (l.length : Int)) := by omega
      simp only [impl_Visits.l0, c1, if_false]
      exact Ev.now _
    | succ d ih =>
      intro i hi c hc hsum hm
      have hil : i < l.length := by omega
      have hx : g l i < n := hlt _ (g_mem hil)
      have hle : g c (g l i) ≤ c.sum := by
        have := sum_set c (g l i) 0 (by omega)
        omega
      have hs2 := sum_set c (g l i) (g c (g l i) + 1) (by omega)
      obtain ⟨c', h1, h2, h3, h4⟩ := ih (i + 1) (by omega) (c.set (g l i) (g c (g l i) + 1)) (by rw [List.length_set]; exact hc) (by omega) (fun x hx' => by
        rw [g_set (by omega)]
        split
        · omega
        · rename_i hne
          have e : l.take (i + 1) = l.take i ++ [l[i]] := by rw [List.take_append_getElem hil]
          rw [e] at hx'
          rcases List.mem_append.mp hx' with h | h
          · exact hm x h
          · have : x = l[i] := by simpa using h
            rw [← g_get hil] at this
            exact absurd this.symm hne)
      refine ⟨c', h1, h2, h3, ev_succ ?_⟩
      have c1 : (i : Int) < (l.length : Int) := by omega
      have c2 : (0 : Int) ≤ (i : Int) := Int.natCast_nonneg i
      have c3 : (0 : Int) ≤ ((g l i : Nat) : Int) := Int.natCast_nonneg _
      have c4 : ((g l i : Nat) : Int) < (c.length : Int) := by rw [hc]; omega
      have q1 : i ≤ 9000000000000000000 := by omega
      have q2 : g c (g l i) ≤ 9000000000000000000 := by omega
      have c5 := w64s i q1
      have c6 := w64s (g c (g l i)) q2
      simp only [impl_Visits.l0, c1, c2, c3, c4, c5, c6, rdI, I_len', I_set, Int.toNat_natCast, if_true]
      exact h4
  have := H l.length 0 (by omega) (List.replicate n 0) (by simp) (by simp) (by simp)
  rw [I_rep] at this
  exact this
theorem total_ev (c : List Nat) (hl : c.length ≤ 1000) (hb : c.sum ≤ 1000000) : Ev (fun k => laws_total.f k (I c)) ((c.sum : Nat) : Int) := by
  unfold laws_total.f
  have H : ∀ d i x : Nat, i + d = c.length → x + (c.drop i).sum = c.sum → Ev (fun k => laws_total.l0 k (x : Int) (I c) (c.length : Int) (i : Int)) ((c.sum : Nat) : Int) := by
    intro d
    induction d with
    | zero =>
      intro i x hi hx
      rw [List.drop_of_length_le (by omega)] at hx
      refine ev_succ ?_
      have c1 : ¬ ((i : Int) < (c.length : Int)) := by omega
      simp only [laws_total.l0, c1, if_false]
      have e : x = c.sum := by simpa using hx
      rw [e]
      exact Ev.now _
    | succ d ih =>
      intro i x hi hx
      have hil : i < c.length := by omega
      rw [List.drop_eq_getElem_cons hil, List.sum_cons, ← g_get hil, ← Nat.add_assoc] at hx
      have key := ih (i + 1) (x + g c i) (by omega) hx
      refine ev_succ ?_
      have c1 : (i : Int) < (c.length : Int) := by omega
      have c2 : (0 : Int) ≤ (i : Int) := Int.natCast_nonneg i
      have q1 : i ≤ 9000000000000000000 := by omega
      have q2 : x + g c i ≤ 9000000000000000000 := by omega
      have c3 := w64s i q1
      have c4 := w64add x (g c i) q2
      simp only [laws_total.l0, c1, c2, c3, c4, rdI, I_len', if_true]
      exact key
  have := H c.length 0 0 (by omega) (by simp)
  simp only [I_len']
  exact this
theorem ev_uniq {α : Type} {f : Nat → Option α} {a b : α} (h1 : Ev f a) (h2 : Ev f b) : a = b := by
  obtain ⟨K1, e1⟩ := h1
  obtain ⟨K2, e2⟩ := h2
  have a1 := e1 (K1 + K2) (by omega)
  have a2 := e2 (K1 + K2) (by omega)
  rw [a1] at a2
  exact Option.some.inj a2
end Go.Proofs.Ytbdnellgioimbaa.M
end
section
/- The law of paths answers true. No conditions. -/
namespace Go.Proofs.Ytbdnellgioimbaa.Pure
set_option linter.unusedVariables false
set_option linter.unusedSimpArgs false
open Go.RowKit Go.Proofs.YtbdnellgioimbaaW.PrintWords Go.Proofs.YtbdnellgioimbaaW.PrintLast Go.Proofs.YtbdnellgioimbaaW.PrintMore Go.Proofs.Ytbdnellgioimbaa.A Go.Proofs.Ytbdnellgioimbaa.M
theorem paths_l0 {r u : List Nat} (hs : Sf r u) (w : ByteArray) (n s : Nat) (hs' : s < r.length) (hn : n * w.size ≤ 288) (hp : 0 < n * w.size) (hback : wk r u (rep w n) (n * w.size) s = s) (c : List Nat) (hc : c.length = r.length) (hv : ∀ j, j < n * w.size → 1 ≤ g c (wk r u (rep w n) j s)) :
    ∀ d i : Nat, i + d = n * w.size → Ev (fun k => laws_FnPaths.l0 k (I (tab (n * w.size) (fun j => wk r u (rep w n) j s))) (rep w n) (I c) (I (tab (n * w.size) (fun j => wk r u (rep w n) j s))) ((n * w.size : Nat) : Int) (i : Int) (I r) (I u)) true := by
  have hle := hs.le
  intro d
  induction d with
  | zero =>
    intro i hi
    refine ev_succ ?_
    have c1 : ¬ ((i : Int) < ((n * w.size : Nat) : Int)) := by omega
    simp only [laws_FnPaths.l0, c1, if_false]
    exact Ev.now _
  | succ d ih =>
    intro i hi
    have hlt := wk_lt hs (rep w n) i hs'
    have hvi := hv i (by omega)
    have key := ih (i + 1) (by omega)
    have hnext : g (tab (n * w.size) (fun j => wk r u (rep w n) j s)) ((i + 1) % (n * w.size)) = wk r u (rep w n) (i + 1) s := by
      by_cases e : i + 1 = n * w.size
      · rw [e, Nat.mod_self, g_tab hp, hback]
        rfl
      · rw [Nat.mod_eq_of_lt (by omega), g_tab (by omega)]
    have hmod : (i + 1) % (n * w.size) < n * w.size := Nat.mod_lt _ hp
    have hst : wk r u (rep w n) (i + 1) s = if bt (rep w n) (i : Int) = 114 then g r (wk r u (rep w n) i s) else g u (wk r u (rep w n) i s) := rfl
    have hgi : g (tab (n * w.size) (fun j => wk r u (rep w n) j s)) i = wk r u (rep w n) i s := g_tab (by omega)
    have hsz := rep_size w n
    have c1 : (i : Int) < ((n * w.size : Nat) : Int) := by omega
    have c2 : (0 : Int) ≤ (i : Int) := Int.natCast_nonneg i
    have c3 : ((tab (n * w.size) (fun j => wk r u (rep w n) j s)).length : Int) = ((n * w.size : Nat) : Int) := by rw [tab_len]
    have c4 : ¬ (((n * w.size : Nat) : Int) = 0) := by omega
    have c6 : Int.tmod ((i + 1 : Nat) : Int) ((n * w.size : Nat) : Int) = (((i + 1) % (n * w.size) : Nat) : Int) := by rw [Int.tmod_eq_emod_of_nonneg (by omega)]; rfl
    have c7 : (0 : Int) ≤ (((i + 1) % (n * w.size) : Nat) : Int) := Int.natCast_nonneg _
    have c8 : (((i + 1) % (n * w.size) : Nat) : Int) < ((n * w.size : Nat) : Int) := by omega
    have c9 : ¬ (((wk r u (rep w n) i s : Nat) : Int) < 0) := by omega
    have d1 : ¬ (((wk r u (rep w n) i s : Nat) : Int) ≥ (r.length : Int)) := by omega
    have d2 : (i : Int) < ((rep w n).size : Int) := by rw [hsz]; exact c1
    have d3 : (0 : Int) ≤ ((wk r u (rep w n) i s : Nat) : Int) := Int.natCast_nonneg _
    have d4 : ((wk r u (rep w n) i s : Nat) : Int) < (r.length : Int) := by omega
    have d5 : ((wk r u (rep w n) i s : Nat) : Int) < (u.length : Int) := by rw [hs.eq]; exact d4
    have d6 : ((wk r u (rep w n) i s : Nat) : Int) < (c.length : Int) := by rw [hc]; exact d4
    have d7 : ¬ (((g c (wk r u (rep w n) i s) : Nat) : Int) < 1) := by omega
    have q1 : i ≤ 9000000000000000000 := by omega
    have c5 := w64s i q1
    refine ev_succ ?_
    by_cases hb : bt (rep w n) (i : Int) = 114
    · rw [if_pos hb] at hst
      rw [hst] at hnext
      simp only [laws_FnPaths.l0, c1, c2, I_len', c3, c4, c5, c6, c7, c8, rdI, hgi, hnext, c9, d1, d2, d3, d4, d6, d7, hb, if_true, if_false]
      exact key
    · rw [if_neg hb] at hst
      rw [hst] at hnext
      simp only [laws_FnPaths.l0, c1, c2, I_len', c3, c4, c5, c6, c7, c8, rdI, hgi, hnext, c9, d1, d2, d3, d5, d6, d7, hb, if_true, if_false]
      exact key
theorem FnPaths (b : List Int) (hb : b.length ≤ maxLen) (_ : ∀ x ∈ b, (Lit.int .u8 x).wf = true) : ∃ k, laws_FnPaths.f k b = some true := by
  refine Ev.rounds ?_
  unfold laws_FnPaths.f
  by_cases h : (b.length : Int) > 1048576
  · simp only [h, if_true]
    exact Ev.now _
  · simp only [h, if_false]
    obtain ⟨r, u, hs, _, e1⟩ := makeSurf_ev b (by omega)
    obtain ⟨p, q, ho, e2⟩ := makeSlope_ev b (by omega) 40 (by omega)
    obtain ⟨x, _, e3⟩ := makeNum_ev b (by omega) 60 (by omega)
    have hpos := hs.pos
    have hle := hs.le
    refine Ev.bind e1 (Ev.bind e2 (Ev.bind e3 ?_))
    have c0 : ¬ ((r.length : Int) = 0) := by omega
    have c1 : Int.tmod (x : Int) (r.length : Int) = ((x % r.length : Nat) : Int) := by rw [Int.tmod_eq_emod_of_nonneg (by omega)]; rfl
    simp only [I_len', c0, c1, if_false]
    have hat : x % r.length < r.length := Nat.mod_lt _ hpos
    generalize x % r.length = s at hat
    have hok : okP (I r) (I u) (s : Int) (p.val : Int) (q.val : Int) := ⟨surfB_I.mpr hs, ho, by omega, by rw [I_len]; omega⟩
    obtain ⟨l, bb, ⟨hl, hlt, hbb⟩, hform, _, _, f1⟩ := squares_both (I r) (I u) (s : Int) (p.val : Int) (q.val : Int)
    obtain rfl : bb = true := hbb.mpr hok
    obtain ⟨n, n1, n24, hback, g0, hl2⟩ := hform rfl
    obtain ⟨n', ⟨⟨_, hn2⟩, _, _⟩, g1, g2⟩ := pathRounds_full2 (I r) (I u) (s : Int) (p.val : Int) (q.val : Int)
    have en : n' = n := by have := ev_uniq g1 g0; omega
    subst en
    obtain ⟨n2, _, g3, g4, g5⟩ := pathText_full (I r) (I u) (s : Int) (p.val : Int) (q.val : Int)
    have en : n2 = n' := by have := ev_uniq g3 g0; omega
    subst en
    have ewx : wordX (p.val : Int) (q.val : Int) = slopeWordI (p.val : Int) (q.val : Int) := if_pos ho
    rw [ewx] at g5
    have hwl := word_len p q ho
    have hwp := word_pos ho
    rw [I_len] at hlt hn2
    rw [N_I, N_I, Int.toNat_natCast] at hback hl2
    have hw12 := (words_ev ho).2.2
    generalize slopeWordI (p.val : Int) (q.val : Int) = w at *
    have hmul : n2 * w.size ≤ 24 * 12 := Nat.mul_le_mul n24 hw12
    have hpos2 : 0 < n2 * w.size := Nat.mul_pos n1 hwp
    have hln : l.length = n2 * w.size := by rw [hl2, tab_len]
    obtain ⟨c, hc1, hc2, hc3, hc4⟩ := visits_count l r.length hle (by omega) (fun y hy => by have := hlt y hy; omega)
    have hvis : Ev (fun k => impl_Visits.f k (I r) (I u) (s : Int) (p.val : Int) (q.val : Int)) (I c) := by
      unfold impl_Visits.f
      refine Ev.bind f1 ?_
      simp only [if_true]
      refine Ev.bind (a := (r.length : Int)) ?_ ?_
      · unfold impl_CountSquares.f
        refine Ev.bind (impl_surf _ _) ?_
        have h0 := surfB_I.mpr hs
        simp only [h0, if_true, I_len']
        exact Ev.now _
      · have z1 : (0 : Int) ≤ (r.length : Int) := Int.natCast_nonneg _
        have z2 : r.length ≤ 35184372088832 := by omega
        simp only [I_len', Int.toNat_natCast, z1, z2, if_true]
        exact hc4
    refine Ev.bind f1 (Ev.bind g2 (Ev.bind g5 (Ev.bind hvis ?_)))
    have b1 : ¬ ((n2 : Int) < 1) := by omega
    have b2 : ¬ ((n2 : Int) > (r.length : Int)) := by omega
    have q1 : p.val + q.val ≤ 9000000000000000000 := by omega
    have q2 : n2 * w.size ≤ 9000000000000000000 := by omega
    have q3 : c.length ≤ 1000 := by omega
    have q4 : c.sum ≤ 1000000 := by omega
    have q5 : n2 * w.size ≤ 288 := by omega
    have b5 : ((rep w n2).size : Int) = ((n2 * w.size : Nat) : Int) := by rw [rep_size]
    have b6 : (0 : Int) < ((n2 * w.size : Nat) : Int) := by omega
    have hg0 : g l 0 = s := by rw [hl2, g_tab hpos2]; rfl
    have b7 : rd (I l) 0 = (s : Int) := by
      have := rdI l 0
      rw [hg0] at this
      exact this
    have b3 : wrap64 ((p.val : Int) + (q.val : Int)) = ((w.size : Nat) : Int) := by rw [w64add _ _ q1, hwl]
    have b4 : wrap64 ((n2 : Int) * ((w.size : Nat) : Int)) = ((n2 * w.size : Nat) : Int) := by rw [← Int.natCast_mul]; exact w64n _ q2
    simp only [b1, b2, b3, b4, b5, hln, if_true, if_false, I_len']
    refine Ev.bind (total_ev c q3 q4) ?_
    simp only [hc2, hc1, hln, b6, b7, bne_self_eq_false, if_true, if_false]
    refine ev_succ ?_
    simp only [laws_FnPaths.j0, Bool.false_eq_true, if_false, I_len', hln]
    have hbk := wk_back hs w hat n2 (Nat.le_refl _)
    rw [hback] at hbk
    have hv : ∀ j, j < n2 * w.size → 1 ≤ g c (wk r u (rep w n2) j s) := fun j hj => by
      refine hc3 _ ?_
      rw [hl2]
      exact List.mem_map.mpr ⟨j, List.mem_range.mpr hj, rfl⟩
    rw [hl2]
    exact paths_l0 hs w n2 s hat q5 hpos2 hbk c hc1 hv _ 0 (Nat.zero_add _)
end Go.Proofs.Ytbdnellgioimbaa.Pure
end
