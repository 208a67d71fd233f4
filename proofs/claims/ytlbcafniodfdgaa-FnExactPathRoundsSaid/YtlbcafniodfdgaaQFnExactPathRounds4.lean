/- Lemmas for the row FnExactPathRounds: the program's functions told as plain functions, and plain mathematics. No conditions. -/
import Derived.Test.YtlbcafniodfdgaaQFnExactPathRounds3
section
namespace Go.Proofs.Ytlbcafniodfdgaa.A
open Go.RowKit Go.Proofs.YtlbcafniodfdgaaW.PrintWords Go.Proofs.YtlbcafniodfdgaaW.PrintLast Go.Proofs.YtlbcafniodfdgaaW.PrintMore
attribute [local go_sem] max2_int min2_int max_two min_two max_three min_three max_four min_four
set_option linter.unusedVariables false
set_option linter.unusedSimpArgs false
def spec_PathPerm.j0 : Nat → Int → Int → Bool → List Int → List Int → Option (List Int × Bool)
  | 0, _, _, _, _, _ => none
  | k + 1, x1, x2, x16, x516000, x516001 => if x16 = true then (some (([] : List Int), false)) else ((spec_SlopeWord.f k x1 x2).bind fun t518 => ((spec_l09Path.f k x516000 x516001 t518).bind fun t519 => (some (t519, true))))
def spec_PathPerm.f (k : Nat) (l0_0 : List Int) (l0_1 : List Int) (a1 : Int) (a2 : Int) : Option (List Int × Bool) := (spec_SurfaceOk.f k l0_0 l0_1).bind fun t516 => (if t516 = true then ((spec_SlopeOk.f k a1 a2).bind fun t517 => (spec_PathPerm.j0 k a1 a2 (!t517) l0_0 l0_1)) else (spec_PathPerm.j0 k a1 a2 true l0_0 l0_1))
theorem spec_PathPerm.mono_l : ∀ k, (∀ y0 y1 y2 y3 y4, LeO (spec_PathPerm.j0 k y0 y1 y2 y3 y4) (spec_PathPerm.j0 (k + 1) y0 y1 y2 y3 y4))
  | 0 => fun _ _ _ _ _ r h => by simp [spec_PathPerm.j0] at h
  | k + 1 => by
    have ih0 := spec_PathPerm.mono_l k
    · intro y0 y1 y2 y3 y4
      unfold spec_PathPerm.j0
      repeat' first
      | (with_reducible exact ih0 _ _ _ _ _)
      | (with_reducible exact spec_SlopeOk.mono _ _ _)
      | (with_reducible exact spec_SlopeWord.mono _ _ _)
      | (with_reducible exact spec_SurfaceOk.mono _ _ _)
      | (with_reducible exact spec_l09Path.mono _ _ _ _)
      | (with_reducible exact LeO.refl _)
      | (with_reducible exact LeO.none _)
      | (with_reducible refine LeO.ite ?_ ?_)
      | (with_reducible refine LeO.bind ?_ (fun _ => ?_))
      | exact ih0 _ _ _ _ _
      | exact spec_SlopeOk.mono _ _ _
      | exact spec_SlopeWord.mono _ _ _
      | exact spec_SurfaceOk.mono _ _ _
      | exact spec_l09Path.mono _ _ _ _
      | exact LeO.none _
      | refine LeO.ite ?_ ?_
      | refine LeO.bind ?_ (fun _ => ?_)
theorem spec_PathPerm.mono : ∀ a0 a1 a2 a3 k, LeO (spec_PathPerm.f k a0 a1 a2 a3) (spec_PathPerm.f (k + 1) a0 a1 a2 a3) := by
  intro a0 a1 a2 a3 k
  have ih0 := spec_PathPerm.mono_l k
  unfold spec_PathPerm.f
  repeat' first
      | (with_reducible exact ih0 _ _ _ _ _)
      | (with_reducible exact spec_SlopeOk.mono _ _ _)
      | (with_reducible exact spec_SlopeWord.mono _ _ _)
      | (with_reducible exact spec_SurfaceOk.mono _ _ _)
      | (with_reducible exact spec_l09Path.mono _ _ _ _)
      | (with_reducible exact LeO.refl _)
      | (with_reducible exact LeO.none _)
      | (with_reducible refine LeO.ite ?_ ?_)
      | (with_reducible refine LeO.bind ?_ (fun _ => ?_))
      | exact ih0 _ _ _ _ _
      | exact spec_SlopeOk.mono _ _ _
      | exact spec_SlopeWord.mono _ _ _
      | exact spec_SurfaceOk.mono _ _ _
      | exact spec_l09Path.mono _ _ _ _
      | exact LeO.none _
      | refine LeO.ite ?_ ?_
      | refine LeO.bind ?_ (fun _ => ?_)
set_option maxHeartbeats 8000000 in
set_option maxRecDepth 100000 in
theorem spec_PathPerm.calls (k : Nat) (A0_0 : Option Addr) (c0_0 : Nat) (l0_0 : List Int) (A0_1 : Option Addr) (c0_1 : Nat) (l0_1 : List Int) (a1 : Int) (a2 : Int) (r1 : List Int) (r2 : Bool) (w : World) (hr0_0 : Kd.C (Kd.int .i64) w A0_0 l0_0.length l0_0) (hc0_0 : l0_0.length ≤ c0_0) (hr0_1 : Kd.C (Kd.int .i64) w A0_1 l0_1.length l0_1) (hc0_1 : l0_1.length ≤ c0_1) (h : spec_PathPerm.f k l0_0 l0_1 a1 a2 = some (r1, r2)) :
    Calls Try.prog 40 #[.agg #[.slice A0_0 l0_0.length c0_0, .slice A0_1 l0_1.length c0_1], .int .i64 a1, .int .i64 a2] w fun e w' => ∃ v0_ : Value, e = .returned (.tuple #[v0_, .bool r2]) ∧ Kd.R (Kd.int .i64) 3 w' w.heap.size (fun _ => True) v0_ r1 ∧ Below w.heap.size w w' := by
  have hu34 := Try.underlying34
  have HR0_0 := Aside0.mk hr0_0
  have HC0_0 := Aside0.mk hc0_0
  clear hr0_0 hc0_0
  have HR0_1 := Aside0.mk hr0_1
  have HC0_1 := Aside0.mk hc0_1
  clear hr0_1 hc0_1
  have HB := Aside0.mk (Below.refl w.heap.size w)
  have H : ((spec_SurfaceOk.f k l0_0 l0_1).bind fun t516 => (if t516 = true then ((spec_SlopeOk.f k a1 a2).bind fun t517 => (spec_PathPerm.j0 k a1 a2 (!t517) l0_0 l0_1)) else (spec_PathPerm.j0 k a1 a2 true l0_0 l0_1))) = some (r1, r2) := h
  clear h
  have HC4 := Aside0.mk H
  clear H
  go_enter Try.func40, Try.ntmps40
  go_upto_region 1 with (first | ((with_reducible refine gate_dst (N := 3) rfl ?_); refine box_event ?hg (N := 3) ?hd (cs := #[.slice A0_0 l0_0.length c0_0, .slice A0_1 l0_1.length c0_1]) (t := 34) ?hr ?_; (case hd => rfl); (case hg => rfl); (case hr => first | (go_simp; done) | (go_simp; rfl)); intro gb515 hg w5 hbox hb; have n0_ := Aside0.mk (below_step (by repeat (first | (with_reducible first | exact HB.out | apply below_alloc | apply pw_below_drewN | apply below_drew1) | exact HB.out)) hb); have n1_ := Aside0.mk (hbox); have n2_ := Aside0.mk ((by rw [hg]; exact (below_size (by repeat (first | (with_reducible first | exact HB.out | apply below_alloc | apply pw_below_drewN | apply below_drew1) | exact HB.out))) : w.heap.size ≤ gb515)); have n3_ := Aside0.mk ((by rw [hg]; exact (below_size (by repeat (first | (with_reducible first | exact HB.out | apply below_alloc | apply pw_below_drewN | apply below_drew1) | exact HB.out))) : w.heap.size ≤ gb515)); clear HB; have HB := n0_; have BK515 := n1_; have GW515 := n2_; have GE515 := n3_; clear n0_ n1_ n2_ n3_; clear hb hbox hg))
  (try simp only [Act.put, List.setIfInBounds_toArray, List.set_cons_zero, List.set_cons_succ])
  go_cut [16] (fun v16 wc => ∃ (kq : Nat) (x16_3 : Bool), v16 = .bool x16_3 ∧ Aside0 (spec_PathPerm.j0 kq a1 a2 x16_3 l0_0 l0_1 = some (r1, r2)) ∧ Aside0 (kq ≤ k) ∧ Aside0 (wc.heap[gb515]? = some (.cells #[(.slice A0_0 l0_0.length c0_0), (.slice A0_1 l0_1.length c0_1)] 34 (0, 0))) ∧ Aside0 (Below w.heap.size w wc))
  case first =>
    have H := HC4.out
    clear HC4
    replace H := Option.bind_eq_some_iff.mp H
    obtain ⟨t516, A60, H⟩ := H
    replace H : (if t516 = true then ((spec_SlopeOk.f k a1 a2).bind fun t517 => (spec_PathPerm.j0 k a1 a2 (!t517) l0_0 l0_1)) else (spec_PathPerm.j0 k a1 a2 true l0_0 l0_1)) = some (r1, r2) := H
    have A6 := Aside0.mk A60
    clear A60
    by_cases c7 : t516 = true
    · subst c7
      have H1 : ((spec_SlopeOk.f k a1 a2).bind fun t517 => (spec_PathPerm.j0 k a1 a2 (!t517) l0_0 l0_1)) = some (r1, r2) := by rw [if_pos rfl] at H; exact H
      clear H
      have H := H1
      clear H1
      replace H := Option.bind_eq_some_iff.mp H
      obtain ⟨t517, A80, H⟩ := H
      replace H : (spec_PathPerm.j0 k a1 a2 (!t517) l0_0 l0_1) = some (r1, r2) := H
      have A8 := Aside0.mk A80
      clear A80
      have H' := Aside0.mk H
      clear H
      have hcz9_0 : w5.cell? ⟨gb515, 0, none⟩ = some (.slice A0_0 l0_0.length c0_0) := (blk_cell BK515.out 0).trans rfl
      have hcz9_1 : w5.cell? ⟨gb515, 1, none⟩ = some (.slice A0_1 l0_1.length c0_1) := (blk_cell BK515.out 1).trans rfl
      have hfz9_0 := blk_frozen BK515.out 0
      have hfz9_1 := blk_frozen BK515.out 1
      go_wp2_with (first | ((with_reducible refine gate_callee (f := 58) rfl ?_); refine goesL_ (some 9) rfl rfl Try.func58 (by kernel_rfl) rfl #[.agg #[.slice A0_0 l0_0.length c0_0, .slice A0_1 l0_1.length c0_1]] rfl (by (try simp only [List.map_toArray, List.map_cons, List.map_nil]); first | done | rfl | (simp only [List.length_drop, List.length_take]; rfl)) ?_; (with_reducible refine (spec_SurfaceOk.calls k _ _ l0_0 _ _ l0_1 true _ ?side1 ?side2 ?side3 ?side4 A6.out).mono ?_); (case side1 => repeat (first | exact (Kd.C_below HR0_0.out HB.out) | (with_reducible refine Kd.C_alloc ?_ _) | (with_reducible refine Kd.C_drewN ?_ _) | (with_reducible refine Kd.C_drew ?_))); (case side2 => exact HC0_0.out); (case side3 => repeat (first | exact (Kd.C_below HR0_1.out HB.out) | (with_reducible refine Kd.C_alloc ?_ _) | (with_reducible refine Kd.C_drewN ?_ _) | (with_reducible refine Kd.C_drew ?_))); (case side4 => exact HC0_1.out); rintro e w10 ⟨rfl, hb⟩; refine ⟨_, rfl, ?_⟩; have n0_ := Aside0.mk (blk_below (g := gb515) (o := .cells #[.slice A0_0 l0_0.length c0_0, .slice A0_1 l0_1.length c0_1] 34 (0, 0)) (by (with_reducible repeat (first | refine blk_drewN ?_ _ | refine blk_drew ?_ | refine blk_alloc ?_ _)); exact BK515.out) hb); have n1_ := Aside0.mk (below_step (by repeat (first | (with_reducible first | exact HB.out | apply below_alloc | apply pw_below_drewN | apply below_drew1 | refine below_set ?_ GE515.out) | exact HB.out)) hb); clear BK515; clear HB; have BK515 := n0_; have HB := n1_; clear n0_ n1_; (try clear hb); (try clear hb2); (try clear hk); (try clear hi)) | (go_at_call 64; (with_reducible refine (spec_SlopeOk.calls k a1 a2 t517 _ A8.out).mono ?_); rintro e w' ⟨rfl, ⟨nd, rfl⟩⟩))
      go_meet
      case rel => exact ⟨_, (!t517), (by first | rfl | (simp; done) | (simp [*]; done)), H', ⟨by first | omega | exact Nat.le_refl _⟩, ⟨by (with_reducible repeat (first | refine blk_drewN ?_ _ | refine blk_drew ?_ | refine blk_alloc ?_ _)); exact BK515.out⟩, ⟨by repeat (first | (with_reducible first | exact HB.out | apply below_alloc | apply pw_below_drewN | apply below_drew1 | refine below_set ?_ GE515.out) | exact HB.out)⟩⟩
    · replace c7 := Bool.eq_false_iff.mpr c7
      subst c7
      have H1 : (spec_PathPerm.j0 k a1 a2 true l0_0 l0_1) = some (r1, r2) := by rw [if_neg (show ¬ (false = true) by decide)] at H; exact H
      clear H
      have H := H1
      clear H1
      have H' := Aside0.mk H
      clear H
      have hcz11_0 : w5.cell? ⟨gb515, 0, none⟩ = some (.slice A0_0 l0_0.length c0_0) := (blk_cell BK515.out 0).trans rfl
      have hcz11_1 : w5.cell? ⟨gb515, 1, none⟩ = some (.slice A0_1 l0_1.length c0_1) := (blk_cell BK515.out 1).trans rfl
      have hfz11_0 := blk_frozen BK515.out 0
      have hfz11_1 := blk_frozen BK515.out 1
      go_wp2_with (first | ((with_reducible refine gate_callee (f := 58) rfl ?_); refine goesL_ (some 9) rfl rfl Try.func58 (by kernel_rfl) rfl #[.agg #[.slice A0_0 l0_0.length c0_0, .slice A0_1 l0_1.length c0_1]] rfl (by (try simp only [List.map_toArray, List.map_cons, List.map_nil]); first | done | rfl | (simp only [List.length_drop, List.length_take]; rfl)) ?_; (with_reducible refine (spec_SurfaceOk.calls k _ _ l0_0 _ _ l0_1 false _ ?side1 ?side2 ?side3 ?side4 A6.out).mono ?_); (case side1 => repeat (first | exact (Kd.C_below HR0_0.out HB.out) | (with_reducible refine Kd.C_alloc ?_ _) | (with_reducible refine Kd.C_drewN ?_ _) | (with_reducible refine Kd.C_drew ?_))); (case side2 => exact HC0_0.out); (case side3 => repeat (first | exact (Kd.C_below HR0_1.out HB.out) | (with_reducible refine Kd.C_alloc ?_ _) | (with_reducible refine Kd.C_drewN ?_ _) | (with_reducible refine Kd.C_drew ?_))); (case side4 => exact HC0_1.out); rintro e w12 ⟨rfl, hb⟩; refine ⟨_, rfl, ?_⟩; have n0_ := Aside0.mk (blk_below (g := gb515) (o := .cells #[.slice A0_0 l0_0.length c0_0, .slice A0_1 l0_1.length c0_1] 34 (0, 0)) (by (with_reducible repeat (first | refine blk_drewN ?_ _ | refine blk_drew ?_ | refine blk_alloc ?_ _)); exact BK515.out) hb); have n1_ := Aside0.mk (below_step (by repeat (first | (with_reducible first | exact HB.out | apply below_alloc | apply pw_below_drewN | apply below_drew1 | refine below_set ?_ GE515.out) | exact HB.out)) hb); clear BK515; clear HB; have BK515 := n0_; have HB := n1_; clear n0_ n1_; (try clear hb); (try clear hb2); (try clear hk); (try clear hi)))
      go_meet
      case rel => exact ⟨_, (true), (by first | rfl | (simp; done) | (simp [*]; done)), H', ⟨by first | omega | exact Nat.le_refl _⟩, ⟨by (with_reducible repeat (first | refine blk_drewN ?_ _ | refine blk_drew ?_ | refine blk_alloc ?_ _)); exact BK515.out⟩, ⟨by repeat (first | (with_reducible first | exact HB.out | apply below_alloc | apply pw_below_drewN | apply below_drew1 | refine below_set ?_ GE515.out) | exact HB.out)⟩⟩
  case rest =>
    clear HC4
    try clear p2
    try clear c4
    try clear c5
    try clear c7
    try clear hcz11_0
    try clear hcz11_1
    try clear hcz9_0
    try clear hcz9_1
    try clear hfz11_0
    try clear hfz11_1
    try clear hfz9_0
    try clear hfz9_1
    obtain ⟨kq, x16_3, rfl, HA, HJ3, BK515, HB⟩ := hcut
    cases kq with
    | zero => exact absurd HA.out (by simp [spec_PathPerm.j0])
    | succ kj3 =>
      have H := HA.out
      clear HA
      simp only [spec_PathPerm.j0] at H
      by_cases c13 : x16_3 = true
      · subst c13
        have H1 : (some (([] : List Int), false)) = some (r1, r2) := by rw [if_pos rfl] at H; exact H
        clear H
        have H := H1
        clear H1
        simp only [Option.some.injEq, Prod.mk.injEq] at H
        obtain ⟨rfl, rfl⟩ := H
        go_wp2
        go_ret2
        exact ⟨_, by first | rfl | (simp [errW_none, errW_some] <;> rfl) | (simp [*, errW_none, errW_some] <;> rfl), by first | exact Kd.R_nil _ _ _ _ _ | exact Kd.N_nil _ _ _ _ _ | exact Kd.V_nil _ _ _ _ _ | exact Kd.Q_nil _ _ _ _ _ | exact Kd.S_nil _ _ _ _ _, by repeat (first | (with_reducible first | exact HB.out | apply below_alloc | apply pw_below_drewN | apply below_drew1 | refine below_set ?_ GE515.out) | exact HB.out)⟩
      · replace c13 := Bool.eq_false_iff.mpr c13
        subst c13
        have H1 : ((spec_SlopeWord.f kj3 a1 a2).bind fun t518 => ((spec_l09Path.f kj3 l0_0 l0_1 t518).bind fun t519 => (some (t519, true)))) = some (r1, r2) := by rw [if_neg (show ¬ (false = true) by decide)] at H; exact H
        clear H
        have H := H1
        clear H1
        replace H := Option.bind_eq_some_iff.mp H
        obtain ⟨t518, A140, H⟩ := H
        replace H : ((spec_l09Path.f kj3 l0_0 l0_1 t518).bind fun t519 => (some (t519, true))) = some (r1, r2) := H
        have A14 := Aside0.mk A140
        clear A140
        replace H := Option.bind_eq_some_iff.mp H
        obtain ⟨t519, A150, H⟩ := H
        replace H : (some (t519, true)) = some (r1, r2) := H
        have A15 := Aside0.mk A150
        clear A150
        simp only [Option.some.injEq, Prod.mk.injEq] at H
        obtain ⟨rfl, rfl⟩ := H
        try go_wp2
        have n0_ := Aside0.mk (blk_drew BK515.out)
        have n1_ := Aside0.mk (below_drew1 HB.out)
        clear BK515
        clear HB
        have BK515 := n0_
        have HB := n1_
        clear n0_ n1_
        refine start_ (n := 7) (S := fun w' => w'.cell? ⟨gb515, 0, none⟩ = some (.slice A0_0 l0_0.length c0_0) ∧ w'.cell? ⟨gb515, 1, none⟩ = some (.slice A0_1 l0_1.length c0_1)) (ds := []) #[false, false, false, false, false, false, false] (by kernel_rfl) rfl rfl ⟨(blk_cell BK515.out 0).trans rfl, (blk_cell BK515.out 1).trans rfl⟩ (fun hHeld => ?_)
        generalize wc.drew = w16 at BK515 HB hHeld ⊢
        refine pure_ (i := 1) (N := some 18) (v := ?_) (a' := ?_) #[false, true, false, false, false, false, false] rfl rfl (by kernel_rfl) (fun _ _ _ h => h) (Or.inl ⟨by rfl, ?_⟩) ?_ ?_
        rotate_left
        · intro w'
          go_simp
          with_reducible rfl
        rotate_left
        · simp only [Act.put, List.setIfInBounds_toArray, List.set_cons_zero, List.set_cons_succ, i64_w, i32_w]
          rfl
        refine pure_ (i := 2) (N := some 19) (v := ?_) (a' := ?_) #[false, true, true, false, false, false, false] rfl rfl (by kernel_rfl) (fun _ _ _ h => h) (Or.inl ⟨by rfl, ?_⟩) ?_ ?_
        rotate_left
        · intro w'
          go_simp
          with_reducible rfl
        rotate_left
        · simp only [Act.put, List.setIfInBounds_toArray, List.set_cons_zero, List.set_cons_succ, i64_w, i32_w]
          rfl
        refine take_ (i := 0) (N := some 17) (v := ?_) (a' := ?_) #[true, true, true, false, false, false, false] rfl rfl (by kernel_rfl) (fun _ _ _ h => h) (Or.inl ⟨by rfl, ?_⟩) hHeld ?_ ?_
        rotate_left
        · rintro w' ⟨s0, s1⟩
          go_simp
          with_reducible rfl
        rotate_left
        · simp only [Act.put, List.setIfInBounds_toArray, List.set_cons_zero, List.set_cons_succ, i64_w, i32_w]
          rfl
        refine one_ (i := 3) (N := some 20) #[true, true, true, true, false, false, false] rfl rfl (by kernel_rfl) (by decide) (fun K hK => ?_)
        refine goes_ Try.func65 (by kernel_rfl) rfl #[.int .i64 a1, .int .i64 a2] (by rfl) rfl rfl (by (try simp only [List.map_toArray, List.map_cons, List.map_nil]); first | done | rfl | (simp only [List.length_drop, List.length_take]; rfl)) ?_
        with_reducible refine (spec_SlopeWord.calls kj3 a1 a2 t518 _ A14.out).mono ?_
        rintro e w' ⟨rfl, ⟨nd, rfl⟩⟩
        refine ⟨_, rfl, ?_⟩
        refine hK.out _ _ ⟨(blk_cell BK515.out 0).trans rfl, (blk_cell BK515.out 1).trans rfl⟩ (fun hHeld => ?_)
        clear hK K
        refine norm_ (a' := ?_) ?_ ?_
        rotate_left
        · show Act.put _ (some 20) _ = _
          simp only [Act.put, List.setIfInBounds_toArray, List.set_cons_zero, List.set_cons_succ, i64_w, i32_w]
          rfl
        refine one_ (i := 4) (N := some 21) #[true, true, true, true, true, false, false] rfl rfl (by kernel_rfl) (by decide) (fun K hK => ?_)
        refine goes_ Try.func74 (by kernel_rfl) rfl #[.agg #[.slice A0_0 l0_0.length c0_0, .slice A0_1 l0_1.length c0_1], .string t518] (by rfl) rfl rfl (by (try simp only [List.map_toArray, List.map_cons, List.map_nil]); first | done | rfl | (simp only [List.length_drop, List.length_take]; rfl)) ?_
        with_reducible refine (spec_l09Path.calls kj3 _ _ l0_0 _ _ l0_1 t518 t519 _ ?side1 ?side2 ?side3 ?side4 A15.out).mono ?_
        (case side1 => repeat (first | exact (Kd.C_below HR0_0.out (by repeat (first | (with_reducible first | exact HB.out | apply below_alloc | apply pw_below_drewN | apply below_drew1 | refine below_set ?_ GE515.out) | exact HB.out))) | (with_reducible refine Kd.C_alloc ?_ _) | (with_reducible refine Kd.C_drewN ?_ _) | (with_reducible refine Kd.C_drew ?_)))
        (case side2 => exact HC0_0.out)
        (case side3 => repeat (first | exact (Kd.C_below HR0_1.out (by repeat (first | (with_reducible first | exact HB.out | apply below_alloc | apply pw_below_drewN | apply below_drew1 | refine below_set ?_ GE515.out) | exact HB.out))) | (with_reducible refine Kd.C_alloc ?_ _) | (with_reducible refine Kd.C_drewN ?_ _) | (with_reducible refine Kd.C_drew ?_)))
        (case side4 => exact HC0_1.out)
        rintro e w17 ⟨v520, rfl, ho0, hb⟩
        refine ⟨_, rfl, ?_⟩
        have n0_ := Aside0.mk (Kd.R_lower ho0 (below_size (by repeat (first | (with_reducible first | exact HB.out | apply below_alloc | apply pw_below_drewN | apply below_drew1 | refine below_set ?_ GE515.out) | exact HB.out))))
        have n1_ := Aside0.mk (blk_below (g := gb515) (o := .cells #[.slice A0_0 l0_0.length c0_0, .slice A0_1 l0_1.length c0_1] 34 (0, 0)) (by (with_reducible repeat (first | refine blk_drewN ?_ _ | refine blk_drew ?_ | refine blk_alloc ?_ _)); exact BK515.out) hb)
        have n2_ := Aside0.mk (below_step (by repeat (first | (with_reducible first | exact HB.out | apply below_alloc | apply pw_below_drewN | apply below_drew1 | refine below_set ?_ GE515.out) | exact HB.out)) hb)
        clear BK515
        clear HB
        have HO521 := n0_
        have BK515 := n1_
        have HB := n2_
        clear n0_ n1_ n2_
        (try clear hb)
        (try clear hb2)
        (try clear hk)
        (try clear hi)
        (try clear ho0)
        refine hK.out _ _ ⟨(blk_cell BK515.out 0).trans rfl, (blk_cell BK515.out 1).trans rfl⟩ (fun hHeld => ?_)
        clear hK K
        refine norm_ (a' := ?_) ?_ ?_
        rotate_left
        · show Act.put _ (some 21) _ = _
          simp only [Act.put, List.setIfInBounds_toArray, List.set_cons_zero, List.set_cons_succ, i64_w, i32_w]
          rfl
        refine pure_ (i := 5) (N := some 6) (v := ?_) (a' := ?_) #[true, true, true, true, true, true, false] rfl rfl (by kernel_rfl) (fun _ _ _ h => h) (Or.inl ⟨by rfl, ?_⟩) ?_ ?_
        rotate_left
        · intro w'
          go_simp
          with_reducible rfl
        rotate_left
        · simp only [Act.put, List.setIfInBounds_toArray, List.set_cons_zero, List.set_cons_succ, i64_w, i32_w]
          rfl
        refine pure_ (i := 6) (N := some 7) (v := ?_) (a' := ?_) #[true, true, true, true, true, true, true] rfl rfl (by kernel_rfl) (fun _ _ _ h => h) (Or.inl ⟨by rfl, ?_⟩) ?_ ?_
        rotate_left
        · intro w'
          go_simp
          with_reducible rfl
        rotate_left
        · simp only [Act.put, List.setIfInBounds_toArray, List.set_cons_zero, List.set_cons_succ, i64_w, i32_w]
          rfl
        refine done_ (by kernel_rfl) ?_
        try go_wp2
        go_ret2
        exact ⟨_, by first | rfl | (simp [errW_none, errW_some] <;> rfl) | (simp [*, errW_none, errW_some] <;> rfl), by (with_reducible repeat (first | apply Kd.R_alloc | apply Kd.R_drewN | apply Kd.R_drew)); exact HO521.out, by repeat (first | (with_reducible first | exact HB.out | apply below_alloc | apply pw_below_drewN | apply below_drew1 | refine below_set ?_ GE515.out) | exact HB.out)⟩
end Go.Proofs.Ytlbcafniodfdgaa.A
end
section
namespace Go.Proofs.Ytlbcafniodfdgaa.A
open Go.RowKit Go.Proofs.YtlbcafniodfdgaaW.PrintWords Go.Proofs.YtlbcafniodfdgaaW.PrintLast Go.Proofs.YtlbcafniodfdgaaW.PrintMore
attribute [local go_sem] max2_int min2_int max_two min_two max_three min_three max_four min_four
set_option linter.unusedVariables false
set_option linter.unusedSimpArgs false
mutual
def laws_FnExactPathPerm.j0 : Nat → Int → Int → List Int → Bool → List Int → Bool → Bool → List Int → List Int → List Int → List Int → Option (Bool)
  | 0, _, _, _, _, _, _, _, _, _, _, _ => none
  | k + 1, x1, x2, x8, x9, x11, x12, x48, x523000, x523001, x541000, x541001 => if x48 = true then (some false) else ((laws_toSurface.f k x523000 x523001).bind fun bt546 => ((laws_eqSurface.f k x541000 x541001 bt546.1 bt546.2).bind fun t552 => (if t552 = true then ((laws_markSurface.f k x541000 x541001 1).bind fun bt553 => (if bt553.1 < 0 then (laws_FnExactPathPerm.j1 k x1 x2 x8 x9 x11 true x523000 x523001) else ((laws_eqIntS.f k x11 x8).bind fun t556 => (if t556 = true then (laws_FnExactPathPerm.j1 k x1 x2 x8 x9 x11 (x12 != x9) x523000 x523001) else (laws_FnExactPathPerm.j1 k x1 x2 x8 x9 x11 true x523000 x523001))))) else (some false))))
def laws_FnExactPathPerm.j1 : Nat → Int → Int → List Int → Bool → List Int → Bool → List Int → List Int → Option (Bool)
  | 0, _, _, _, _, _, _, _, _ => none
  | k + 1, x1, x2, x8, x9, x11, x69, x523000, x523001 => if x69 = true then (some false) else ((laws_markIntS.f k x11 1).bind fun bt557 => ((laws_heldIntS.f k bt557.2 1).bind fun t559 => (if t559 < 0 then (some false) else (if t559 = bt557.1 then ((laws_toSurface.f k x523000 x523001).bind fun bt560 => ((impl_PathPerm.f k bt560.1 bt560.2 x1 x2).bind fun bt566 => ((laws_eqIntS.f k bt566.1 x8).bind fun t570 => (if t570 = true then (laws_FnExactPathPerm.j2 k bt557.2 bt557.1 (bt566.2 != x9)) else (laws_FnExactPathPerm.j2 k bt557.2 bt557.1 true))))) else (some false)))))
def laws_FnExactPathPerm.j2 : Nat → List Int → Int → Bool → Option (Bool)
  | 0, _, _, _ => none
  | k + 1, x11, x14, x97 => if x97 = true then (some false) else ((laws_heldIntS.f k x11 1).bind fun t571 => (if t571 < 0 then (some false) else (if t571 = x14 then (some true) else (some false))))
end
def laws_FnExactPathPerm.f (k : Nat) (l0_0 : List Int) (l0_1 : List Int) (a1 : Int) (a2 : Int) : Option (Bool) := (laws_szSurface.f l0_0 l0_1 1048576).bind fun t523 => (if t523 < 0 then (some true) else ((laws_toSurface.f k l0_0 l0_1).bind fun bt524 => ((spec_PathPerm.f k bt524.1 bt524.2 a1 a2).bind fun bt530 => ((laws_toSurface.f k l0_0 l0_1).bind fun bt534 => ((impl_PathPerm.f k bt534.1 bt534.2 a1 a2).bind fun bt541 => ((laws_eqIntS.f k bt541.1 bt530.1).bind fun t545 => (if t545 = true then (laws_FnExactPathPerm.j0 k a1 a2 bt530.1 bt530.2 bt541.1 bt541.2 (bt541.2 != bt530.2) l0_0 l0_1 bt534.1 bt534.2) else (laws_FnExactPathPerm.j0 k a1 a2 bt530.1 bt530.2 bt541.1 bt541.2 true l0_0 l0_1 bt534.1 bt534.2))))))))
theorem laws_FnExactPathPerm.mono_l : ∀ k, (∀ y0 y1 y2 y3 y4 y5 y6 y7 y8 y9 y10, LeO (laws_FnExactPathPerm.j0 k y0 y1 y2 y3 y4 y5 y6 y7 y8 y9 y10) (laws_FnExactPathPerm.j0 (k + 1) y0 y1 y2 y3 y4 y5 y6 y7 y8 y9 y10)) ∧ (∀ y0 y1 y2 y3 y4 y5 y6 y7, LeO (laws_FnExactPathPerm.j1 k y0 y1 y2 y3 y4 y5 y6 y7) (laws_FnExactPathPerm.j1 (k + 1) y0 y1 y2 y3 y4 y5 y6 y7)) ∧ (∀ y0 y1 y2, LeO (laws_FnExactPathPerm.j2 k y0 y1 y2) (laws_FnExactPathPerm.j2 (k + 1) y0 y1 y2))
  | 0 => ⟨fun _ _ _ _ _ _ _ _ _ _ _ r h => by simp [laws_FnExactPathPerm.j0] at h, fun _ _ _ _ _ _ _ _ r h => by simp [laws_FnExactPathPerm.j1] at h, fun _ _ _ r h => by simp [laws_FnExactPathPerm.j2] at h⟩
  | k + 1 => by
    obtain ⟨ih0, ih1, ih2⟩ := laws_FnExactPathPerm.mono_l k
    refine ⟨?_, ?_, ?_⟩
    · intro y0 y1 y2 y3 y4 y5 y6 y7 y8 y9 y10
      unfold laws_FnExactPathPerm.j0
      repeat' first
      | (with_reducible exact ih0 _ _ _ _ _ _ _ _ _ _ _)
      | (with_reducible exact ih1 _ _ _ _ _ _ _ _)
      | (with_reducible exact ih2 _ _ _)
      | (with_reducible exact impl_PathPerm.mono _ _ _ _ _)
      | (with_reducible exact laws_eqIntS.mono _ _ _)
      | (with_reducible exact laws_eqSurface.mono _ _ _ _ _)
      | (with_reducible exact laws_heldIntS.mono _ _ _)
      | (with_reducible exact laws_markIntS.mono _ _ _)
      | (with_reducible exact laws_markSurface.mono _ _ _ _)
      | (with_reducible exact laws_toSurface.mono _ _ _)
      | (with_reducible exact spec_PathPerm.mono _ _ _ _ _)
      | (with_reducible exact LeO.refl _)
      | (with_reducible exact LeO.none _)
      | (with_reducible refine LeO.ite ?_ ?_)
      | (with_reducible refine LeO.bind ?_ (fun _ => ?_))
      | exact ih0 _ _ _ _ _ _ _ _ _ _ _
      | exact ih1 _ _ _ _ _ _ _ _
      | exact ih2 _ _ _
      | exact impl_PathPerm.mono _ _ _ _ _
      | exact laws_eqIntS.mono _ _ _
      | exact laws_eqSurface.mono _ _ _ _ _
      | exact laws_heldIntS.mono _ _ _
      | exact laws_markIntS.mono _ _ _
      | exact laws_markSurface.mono _ _ _ _
      | exact laws_toSurface.mono _ _ _
      | exact spec_PathPerm.mono _ _ _ _ _
      | exact LeO.none _
      | refine LeO.ite ?_ ?_
      | refine LeO.bind ?_ (fun _ => ?_)
    · intro y0 y1 y2 y3 y4 y5 y6 y7
      unfold laws_FnExactPathPerm.j1
      repeat' first
      | (with_reducible exact ih0 _ _ _ _ _ _ _ _ _ _ _)
      | (with_reducible exact ih1 _ _ _ _ _ _ _ _)
      | (with_reducible exact ih2 _ _ _)
      | (with_reducible exact impl_PathPerm.mono _ _ _ _ _)
      | (with_reducible exact laws_eqIntS.mono _ _ _)
      | (with_reducible exact laws_eqSurface.mono _ _ _ _ _)
      | (with_reducible exact laws_heldIntS.mono _ _ _)
      | (with_reducible exact laws_markIntS.mono _ _ _)
      | (with_reducible exact laws_markSurface.mono _ _ _ _)
      | (with_reducible exact laws_toSurface.mono _ _ _)
      | (with_reducible exact spec_PathPerm.mono _ _ _ _ _)
      | (with_reducible exact LeO.refl _)
      | (with_reducible exact LeO.none _)
      | (with_reducible refine LeO.ite ?_ ?_)
      | (with_reducible refine LeO.bind ?_ (fun _ => ?_))
      | exact ih0 _ _ _ _ _ _ _ _ _ _ _
      | exact ih1 _ _ _ _ _ _ _ _
      | exact ih2 _ _ _
      | exact impl_PathPerm.mono _ _ _ _ _
      | exact laws_eqIntS.mono _ _ _
      | exact laws_eqSurface.mono _ _ _ _ _
      | exact laws_heldIntS.mono _ _ _
      | exact laws_markIntS.mono _ _ _
      | exact laws_markSurface.mono _ _ _ _
      | exact laws_toSurface.mono _ _ _
      | exact spec_PathPerm.mono _ _ _ _ _
      | exact LeO.none _
      | refine LeO.ite ?_ ?_
      | refine LeO.bind ?_ (fun _ => ?_)
    · intro y0 y1 y2
      unfold laws_FnExactPathPerm.j2
      repeat' first
      | (with_reducible exact ih0 _ _ _ _ _ _ _ _ _ _ _)
      | (with_reducible exact ih1 _ _ _ _ _ _ _ _)
      | (with_reducible exact ih2 _ _ _)
      | (with_reducible exact impl_PathPerm.mono _ _ _ _ _)
      | (with_reducible exact laws_eqIntS.mono _ _ _)
      | (with_reducible exact laws_eqSurface.mono _ _ _ _ _)
      | (with_reducible exact laws_heldIntS.mono _ _ _)
      | (with_reducible exact laws_markIntS.mono _ _ _)
      | (with_reducible exact laws_markSurface.mono _ _ _ _)
      | (with_reducible exact laws_toSurface.mono _ _ _)
      | (with_reducible exact spec_PathPerm.mono _ _ _ _ _)
      | (with_reducible exact LeO.refl _)
      | (with_reducible exact LeO.none _)
      | (with_reducible refine LeO.ite ?_ ?_)
      | (with_reducible refine LeO.bind ?_ (fun _ => ?_))
      | exact ih0 _ _ _ _ _ _ _ _ _ _ _
      | exact ih1 _ _ _ _ _ _ _ _
      | exact ih2 _ _ _
      | exact impl_PathPerm.mono _ _ _ _ _
      | exact laws_eqIntS.mono _ _ _
      | exact laws_eqSurface.mono _ _ _ _ _
      | exact laws_heldIntS.mono _ _ _
      | exact laws_markIntS.mono _ _ _
      | exact laws_markSurface.mono _ _ _ _
      | exact laws_toSurface.mono _ _ _
      | exact spec_PathPerm.mono _ _ _ _ _
      | exact LeO.none _
      | refine LeO.ite ?_ ?_
      | refine LeO.bind ?_ (fun _ => ?_)
theorem laws_FnExactPathPerm.mono : ∀ a0 a1 a2 a3 k, LeO (laws_FnExactPathPerm.f k a0 a1 a2 a3) (laws_FnExactPathPerm.f (k + 1) a0 a1 a2 a3) := by
  intro a0 a1 a2 a3 k
  obtain ⟨ih0, ih1, ih2⟩ := laws_FnExactPathPerm.mono_l k
  unfold laws_FnExactPathPerm.f
  repeat' first
      | (with_reducible exact ih0 _ _ _ _ _ _ _ _ _ _ _)
      | (with_reducible exact ih1 _ _ _ _ _ _ _ _)
      | (with_reducible exact ih2 _ _ _)
      | (with_reducible exact impl_PathPerm.mono _ _ _ _ _)
      | (with_reducible exact laws_eqIntS.mono _ _ _)
      | (with_reducible exact laws_eqSurface.mono _ _ _ _ _)
      | (with_reducible exact laws_heldIntS.mono _ _ _)
      | (with_reducible exact laws_markIntS.mono _ _ _)
      | (with_reducible exact laws_markSurface.mono _ _ _ _)
      | (with_reducible exact laws_toSurface.mono _ _ _)
      | (with_reducible exact spec_PathPerm.mono _ _ _ _ _)
      | (with_reducible exact LeO.refl _)
      | (with_reducible exact LeO.none _)
      | (with_reducible refine LeO.ite ?_ ?_)
      | (with_reducible refine LeO.bind ?_ (fun _ => ?_))
      | exact ih0 _ _ _ _ _ _ _ _ _ _ _
      | exact ih1 _ _ _ _ _ _ _ _
      | exact ih2 _ _ _
      | exact impl_PathPerm.mono _ _ _ _ _
      | exact laws_eqIntS.mono _ _ _
      | exact laws_eqSurface.mono _ _ _ _ _
      | exact laws_heldIntS.mono _ _ _
      | exact laws_markIntS.mono _ _ _
      | exact laws_markSurface.mono _ _ _ _
      | exact laws_toSurface.mono _ _ _
      | exact spec_PathPerm.mono _ _ _ _ _
      | exact LeO.none _
      | refine LeO.ite ?_ ?_
      | refine LeO.bind ?_ (fun _ => ?_)
set_option maxHeartbeats 8000000 in
set_option maxRecDepth 100000 in
theorem laws_FnExactPathPerm.calls (k : Nat) (A0_0 : Option Addr) (c0_0 : Nat) (l0_0 : List Int) (A0_1 : Option Addr) (c0_1 : Nat) (l0_1 : List Int) (a1 : Int) (a2 : Int) (r : Bool) (w : World) (hr0_0 : Kd.C (Kd.int .i64) w A0_0 l0_0.length l0_0) (hc0_0 : l0_0.length ≤ c0_0) (hr0_1 : Kd.C (Kd.int .i64) w A0_1 l0_1.length l0_1) (hc0_1 : l0_1.length ≤ c0_1) (h : laws_FnExactPathPerm.f k l0_0 l0_1 a1 a2 = some r) (hr1_ : Aside0 (r = true)) :
    Calls Try.prog 9 #[.agg #[.slice A0_0 l0_0.length c0_0, .slice A0_1 l0_1.length c0_1], .int .i64 a1, .int .i64 a2] w fun e w' => e = .returned (.bool r) ∧ Below w.heap.size w w' := by
  have hu31 := Try.underlying31
  have hu34 := Try.underlying34
  have HR0_0 := Aside0.mk hr0_0
  have HC0_0 := Aside0.mk hc0_0
  clear hr0_0 hc0_0
  have HR0_1 := Aside0.mk hr0_1
  have HC0_1 := Aside0.mk hc0_1
  clear hr0_1 hc0_1
  have HB := Aside0.mk (Below.refl w.heap.size w)
  have H : ((laws_szSurface.f l0_0 l0_1 1048576).bind fun t523 => (if t523 < 0 then (some true) else ((laws_toSurface.f k l0_0 l0_1).bind fun bt524 => ((spec_PathPerm.f k bt524.1 bt524.2 a1 a2).bind fun bt530 => ((laws_toSurface.f k l0_0 l0_1).bind fun bt534 => ((impl_PathPerm.f k bt534.1 bt534.2 a1 a2).bind fun bt541 => ((laws_eqIntS.f k bt541.1 bt530.1).bind fun t545 => (if t545 = true then (laws_FnExactPathPerm.j0 k a1 a2 bt530.1 bt530.2 bt541.1 bt541.2 (bt541.2 != bt530.2) l0_0 l0_1 bt534.1 bt534.2) else (laws_FnExactPathPerm.j0 k a1 a2 bt530.1 bt530.2 bt541.1 bt541.2 true l0_0 l0_1 bt534.1 bt534.2))))))))) = some r := h
  clear h
  replace H := Option.bind_eq_some_iff.mp H
  obtain ⟨t523, A40, H⟩ := H
  replace H : (if t523 < 0 then (some true) else ((laws_toSurface.f k l0_0 l0_1).bind fun bt524 => ((spec_PathPerm.f k bt524.1 bt524.2 a1 a2).bind fun bt530 => ((laws_toSurface.f k l0_0 l0_1).bind fun bt534 => ((impl_PathPerm.f k bt534.1 bt534.2 a1 a2).bind fun bt541 => ((laws_eqIntS.f k bt541.1 bt530.1).bind fun t545 => (if t545 = true then (laws_FnExactPathPerm.j0 k a1 a2 bt530.1 bt530.2 bt541.1 bt541.2 (bt541.2 != bt530.2) l0_0 l0_1 bt534.1 bt534.2) else (laws_FnExactPathPerm.j0 k a1 a2 bt530.1 bt530.2 bt541.1 bt541.2 true l0_0 l0_1 bt534.1 bt534.2)))))))) = some r := H
  have A4 := Aside0.mk A40
  clear A40
  by_cases c5 : t523 < 0
  · rw [if_pos c5] at H
    have c5b0 : decide (t523 < 0) = true := decide_eq_true c5
    clear c5
    obtain rfl := Option.some.inj H
    go_enter Try.func9, Try.ntmps9
    go_wp2_with (first | ((with_reducible refine gate_dst (N := 3) rfl ?_); refine box_event ?hg (N := 3) ?hd (cs := #[.slice A0_0 l0_0.length c0_0, .slice A0_1 l0_1.length c0_1]) (t := 31) ?hr ?_; (case hd => rfl); (case hg => rfl); (case hr => first | (go_simp; done) | (go_simp; rfl)); intro gb522 hg w6 hbox hb; have n0_ := Aside0.mk (below_step (by repeat (first | (with_reducible first | exact HB.out | apply below_alloc | apply pw_below_drewN | apply below_drew1) | exact HB.out)) hb); have n1_ := Aside0.mk (hbox); have n2_ := Aside0.mk ((by rw [hg]; exact (below_size (by repeat (first | (with_reducible first | exact HB.out | apply below_alloc | apply pw_below_drewN | apply below_drew1) | exact HB.out))) : w.heap.size ≤ gb522)); have n3_ := Aside0.mk ((by rw [hg]; exact (below_size (by repeat (first | (with_reducible first | exact HB.out | apply below_alloc | apply pw_below_drewN | apply below_drew1) | exact HB.out))) : w.heap.size ≤ gb522)); clear HB; have HB := n0_; have BK522 := n1_; have GW522 := n2_; have GE522 := n3_; clear n0_ n1_ n2_ n3_; clear hb hbox hg; have hcz7_0 : w6.cell? ⟨gb522, 0, none⟩ = some (.slice A0_0 l0_0.length c0_0) := (blk_cell BK522.out 0).trans rfl; have hcz7_1 : w6.cell? ⟨gb522, 1, none⟩ = some (.slice A0_1 l0_1.length c0_1) := (blk_cell BK522.out 1).trans rfl; have hfz7_0 := blk_frozen BK522.out 0; have hfz7_1 := blk_frozen BK522.out 1) | ((with_reducible refine gate_callee (f := 20) rfl ?_); refine goesL_ (some 20) rfl rfl Try.func20 (by kernel_rfl) rfl #[.agg #[.slice A0_0 l0_0.length c0_0, .slice A0_1 l0_1.length c0_1], .int .i64 1048576] rfl (by (try simp only [List.map_toArray, List.map_cons, List.map_nil]); first | done | rfl | (simp only [List.length_drop, List.length_take]; rfl)) ?_; (with_reducible refine (laws_szSurface.calls _ _ l0_0 _ _ l0_1 1048576 t523 _ ?side1 ?side2 ?side3 ?side4 A4.out).mono ?_); (case side1 => repeat (first | exact (Kd.C_below HR0_0.out HB.out) | (with_reducible refine Kd.C_alloc ?_ _) | (with_reducible refine Kd.C_drewN ?_ _) | (with_reducible refine Kd.C_drew ?_))); (case side2 => exact HC0_0.out); (case side3 => repeat (first | exact (Kd.C_below HR0_1.out HB.out) | (with_reducible refine Kd.C_alloc ?_ _) | (with_reducible refine Kd.C_drewN ?_ _) | (with_reducible refine Kd.C_drew ?_))); (case side4 => exact HC0_1.out); rintro e w8 ⟨rfl, hb⟩; refine ⟨_, rfl, ?_⟩; have n0_ := Aside0.mk (blk_below (g := gb522) (o := .cells #[.slice A0_0 l0_0.length c0_0, .slice A0_1 l0_1.length c0_1] 31 (0, 0)) (by (with_reducible repeat (first | refine blk_drewN ?_ _ | refine blk_drew ?_ | refine blk_alloc ?_ _)); exact BK522.out) hb); have n1_ := Aside0.mk (below_step (by repeat (first | (with_reducible first | exact HB.out | apply below_alloc | apply pw_below_drewN | apply below_drew1 | refine below_set ?_ GE522.out) | exact HB.out)) hb); clear BK522; clear HB; have BK522 := n0_; have HB := n1_; clear n0_ n1_; (try clear hb); (try clear hb2); (try clear hk); (try clear hi)))
    go_ret
    exact ⟨by first | rfl | (simp [errW_none, errW_some] <;> rfl) | (simp [*, errW_none, errW_some] <;> rfl), by repeat (first | (with_reducible first | exact HB.out | apply below_alloc | apply pw_below_drewN | apply below_drew1 | refine below_set ?_ GE522.out) | exact HB.out)⟩
  · rw [if_neg c5] at H
    have c5b0 : decide (t523 < 0) = false := decide_eq_false c5
    clear c5
    replace H := Option.bind_eq_some_iff.mp H
    obtain ⟨⟨t524, t527⟩, A90, H⟩ := H
    replace H : ((spec_PathPerm.f k t524 t527 a1 a2).bind fun bt530 => ((laws_toSurface.f k l0_0 l0_1).bind fun bt534 => ((impl_PathPerm.f k bt534.1 bt534.2 a1 a2).bind fun bt541 => ((laws_eqIntS.f k bt541.1 bt530.1).bind fun t545 => (if t545 = true then (laws_FnExactPathPerm.j0 k a1 a2 bt530.1 bt530.2 bt541.1 bt541.2 (bt541.2 != bt530.2) l0_0 l0_1 bt534.1 bt534.2) else (laws_FnExactPathPerm.j0 k a1 a2 bt530.1 bt530.2 bt541.1 bt541.2 true l0_0 l0_1 bt534.1 bt534.2)))))) = some r := H
    have A9 := Aside0.mk A90
    clear A90
    replace H := Option.bind_eq_some_iff.mp H
    obtain ⟨⟨t530, t533⟩, A100, H⟩ := H
    replace H : ((laws_toSurface.f k l0_0 l0_1).bind fun bt534 => ((impl_PathPerm.f k bt534.1 bt534.2 a1 a2).bind fun bt541 => ((laws_eqIntS.f k bt541.1 t530).bind fun t545 => (if t545 = true then (laws_FnExactPathPerm.j0 k a1 a2 t530 t533 bt541.1 bt541.2 (bt541.2 != t533) l0_0 l0_1 bt534.1 bt534.2) else (laws_FnExactPathPerm.j0 k a1 a2 t530 t533 bt541.1 bt541.2 true l0_0 l0_1 bt534.1 bt534.2))))) = some r := H
    have A10 := Aside0.mk A100
    clear A100
    replace H := Option.bind_eq_some_iff.mp H
    obtain ⟨⟨t534, t537⟩, A110, H⟩ := H
    replace H : ((impl_PathPerm.f k t534 t537 a1 a2).bind fun bt541 => ((laws_eqIntS.f k bt541.1 t530).bind fun t545 => (if t545 = true then (laws_FnExactPathPerm.j0 k a1 a2 t530 t533 bt541.1 bt541.2 (bt541.2 != t533) l0_0 l0_1 t534 t537) else (laws_FnExactPathPerm.j0 k a1 a2 t530 t533 bt541.1 bt541.2 true l0_0 l0_1 t534 t537)))) = some r := H
    have A11 := Aside0.mk A110
    clear A110
    replace H := Option.bind_eq_some_iff.mp H
    obtain ⟨⟨t541, t544⟩, A120, H⟩ := H
    replace H : ((laws_eqIntS.f k t541 t530).bind fun t545 => (if t545 = true then (laws_FnExactPathPerm.j0 k a1 a2 t530 t533 t541 t544 (t544 != t533) l0_0 l0_1 t534 t537) else (laws_FnExactPathPerm.j0 k a1 a2 t530 t533 t541 t544 true l0_0 l0_1 t534 t537))) = some r := H
    have A12 := Aside0.mk A120
    clear A120
    have HC13 := Aside0.mk H
    clear H
    go_enter Try.func9, Try.ntmps9
    go_upto_region 8 with (first | ((with_reducible refine gate_dst (N := 3) rfl ?_); refine box_event ?hg (N := 3) ?hd (cs := #[.slice A0_0 l0_0.length c0_0, .slice A0_1 l0_1.length c0_1]) (t := 31) ?hr ?_; (case hd => rfl); (case hg => rfl); (case hr => first | (go_simp; done) | (go_simp; rfl)); intro gb522 hg w14 hbox hb; have n0_ := Aside0.mk (below_step (by repeat (first | (with_reducible first | exact HB.out | apply below_alloc | apply pw_below_drewN | apply below_drew1) | exact HB.out)) hb); have n1_ := Aside0.mk (hbox); have n2_ := Aside0.mk ((by rw [hg]; exact (below_size (by repeat (first | (with_reducible first | exact HB.out | apply below_alloc | apply pw_below_drewN | apply below_drew1) | exact HB.out))) : w.heap.size ≤ gb522)); have n3_ := Aside0.mk ((by rw [hg]; exact (below_size (by repeat (first | (with_reducible first | exact HB.out | apply below_alloc | apply pw_below_drewN | apply below_drew1) | exact HB.out))) : w.heap.size ≤ gb522)); clear HB; have HB := n0_; have BK522 := n1_; have GW522 := n2_; have GE522 := n3_; clear n0_ n1_ n2_ n3_; clear hb hbox hg; have hcz15_0 : w14.cell? ⟨gb522, 0, none⟩ = some (.slice A0_0 l0_0.length c0_0) := (blk_cell BK522.out 0).trans rfl; have hcz15_1 : w14.cell? ⟨gb522, 1, none⟩ = some (.slice A0_1 l0_1.length c0_1) := (blk_cell BK522.out 1).trans rfl; have hfz15_0 := blk_frozen BK522.out 0; have hfz15_1 := blk_frozen BK522.out 1) | ((with_reducible refine gate_callee (f := 20) rfl ?_); refine goesL_ (some 20) rfl rfl Try.func20 (by kernel_rfl) rfl #[.agg #[.slice A0_0 l0_0.length c0_0, .slice A0_1 l0_1.length c0_1], .int .i64 1048576] rfl (by (try simp only [List.map_toArray, List.map_cons, List.map_nil]); first | done | rfl | (simp only [List.length_drop, List.length_take]; rfl)) ?_; (with_reducible refine (laws_szSurface.calls _ _ l0_0 _ _ l0_1 1048576 t523 _ ?side1 ?side2 ?side3 ?side4 A4.out).mono ?_); (case side1 => repeat (first | exact (Kd.C_below HR0_0.out HB.out) | (with_reducible refine Kd.C_alloc ?_ _) | (with_reducible refine Kd.C_drewN ?_ _) | (with_reducible refine Kd.C_drew ?_))); (case side2 => exact HC0_0.out); (case side3 => repeat (first | exact (Kd.C_below HR0_1.out HB.out) | (with_reducible refine Kd.C_alloc ?_ _) | (with_reducible refine Kd.C_drewN ?_ _) | (with_reducible refine Kd.C_drew ?_))); (case side4 => exact HC0_1.out); rintro e w16 ⟨rfl, hb⟩; refine ⟨_, rfl, ?_⟩; have n0_ := Aside0.mk (blk_below (g := gb522) (o := .cells #[.slice A0_0 l0_0.length c0_0, .slice A0_1 l0_1.length c0_1] 31 (0, 0)) (by (with_reducible repeat (first | refine blk_drewN ?_ _ | refine blk_drew ?_ | refine blk_alloc ?_ _)); exact BK522.out) hb); have n1_ := Aside0.mk (below_step (by repeat (first | (with_reducible first | exact HB.out | apply below_alloc | apply pw_below_drewN | apply below_drew1 | refine below_set ?_ GE522.out) | exact HB.out)) hb); clear BK522; clear HB; have BK522 := n0_; have HB := n1_; clear n0_ n1_; (try clear hb); (try clear hb2); (try clear hk); (try clear hi); have hcz17_0 : w16.cell? ⟨gb522, 0, none⟩ = some (.slice A0_0 l0_0.length c0_0) := (blk_cell BK522.out 0).trans rfl; have hcz17_1 : w16.cell? ⟨gb522, 1, none⟩ = some (.slice A0_1 l0_1.length c0_1) := (blk_cell BK522.out 1).trans rfl; have hfz17_0 := blk_frozen BK522.out 0; have hfz17_1 := blk_frozen BK522.out 1) | ((with_reducible refine gate_callee (f := 22) rfl ?_); refine goesL_ (some 25) rfl rfl Try.func22 (by kernel_rfl) rfl #[.agg #[.slice A0_0 l0_0.length c0_0, .slice A0_1 l0_1.length c0_1]] rfl (by (try simp only [List.map_toArray, List.map_cons, List.map_nil]); first | done | rfl | (simp only [List.length_drop, List.length_take]; rfl)) ?_; (with_reducible refine (laws_toSurface.calls k _ _ l0_0 _ _ l0_1 t524 t527 _ ?side1 ?side2 ?side3 ?side4 A9.out).mono ?_); (case side1 => repeat (first | exact (Kd.C_below HR0_0.out HB.out) | (with_reducible refine Kd.C_alloc ?_ _) | (with_reducible refine Kd.C_drewN ?_ _) | (with_reducible refine Kd.C_drew ?_))); (case side2 => exact HC0_0.out); (case side3 => repeat (first | exact (Kd.C_below HR0_1.out HB.out) | (with_reducible refine Kd.C_alloc ?_ _) | (with_reducible refine Kd.C_drewN ?_ _) | (with_reducible refine Kd.C_drew ?_))); (case side4 => exact HC0_1.out); rintro e w18 ⟨v525, v528, rfl, ho0, ho1, hb⟩; refine ⟨_, rfl, ?_⟩; have n0_ := Aside0.mk (Kd.R_lower ho0 (below_size (by repeat (first | (with_reducible first | exact HB.out | apply below_alloc | apply pw_below_drewN | apply below_drew1 | refine below_set ?_ GE522.out) | exact HB.out)))); have n1_ := Aside0.mk (Kd.R_lower ho1 (below_size (by repeat (first | (with_reducible first | exact HB.out | apply below_alloc | apply pw_below_drewN | apply below_drew1 | refine below_set ?_ GE522.out) | exact HB.out)))); have n2_ := Aside0.mk (blk_below (g := gb522) (o := .cells #[.slice A0_0 l0_0.length c0_0, .slice A0_1 l0_1.length c0_1] 31 (0, 0)) (by (with_reducible repeat (first | refine blk_drewN ?_ _ | refine blk_drew ?_ | refine blk_alloc ?_ _)); exact BK522.out) hb); have n3_ := Aside0.mk (below_step (by repeat (first | (with_reducible first | exact HB.out | apply below_alloc | apply pw_below_drewN | apply below_drew1 | refine below_set ?_ GE522.out) | exact HB.out)) hb); clear BK522; clear HB; have HO526 := n0_; have HO529 := n1_; have BK522 := n2_; have HB := n3_; clear n0_ n1_ n2_ n3_; (try clear hb); (try clear hb2); (try clear hk); (try clear hi); (try clear ho0); (try clear ho1); obtain ⟨Ao19, co19, eo19⟩ := Kd.R_slice HO526.out; subst eo19; obtain ⟨Ao20, co20, eo20⟩ := Kd.R_slice HO529.out; subst eo20) | ((with_reducible refine gate_callee (f := 40) rfl ?_); refine goesL_ (some 28) rfl rfl Try.func40 (by kernel_rfl) rfl #[.agg #[.slice Ao19 t524.length co19, .slice Ao20 t527.length co20], .int .i64 a1, .int .i64 a2] rfl (by (try simp only [List.map_toArray, List.map_cons, List.map_nil]); first | done | rfl | (simp only [List.length_drop, List.length_take]; rfl)) ?_; (with_reducible refine (spec_PathPerm.calls k _ _ t524 _ _ t527 a1 a2 t530 t533 _ ?side1 ?side2 ?side3 ?side4 A10.out).mono ?_); (case side1 => repeat (first | exact (Kd.R_reads' HO526.out).2.2 | (with_reducible refine Kd.C_alloc ?_ _) | (with_reducible refine Kd.C_drewN ?_ _) | (with_reducible refine Kd.C_drew ?_))); (case side2 => exact (Kd.R_reads' HO526.out).2.1); (case side3 => repeat (first | exact (Kd.R_reads' HO529.out).2.2 | (with_reducible refine Kd.C_alloc ?_ _) | (with_reducible refine Kd.C_drewN ?_ _) | (with_reducible refine Kd.C_drew ?_))); (case side4 => exact (Kd.R_reads' HO529.out).2.1); rintro e w21 ⟨v531, rfl, ho0, hb⟩; refine ⟨_, rfl, ?_⟩; have n0_ := Aside0.mk (Kd.R_elder' (by (with_reducible repeat (first | apply Kd.R_alloc | apply Kd.R_drewN | apply Kd.R_drew)); exact HO526.out) (Kd.R_base ho0) hb); have n1_ := Aside0.mk (Kd.R_elder' (by (with_reducible repeat (first | apply Kd.R_alloc | apply Kd.R_drewN | apply Kd.R_drew)); exact HO529.out) (Kd.R_base ho0) hb); have n2_ := Aside0.mk (Kd.R_lower (Kd.R_new' (Kd.R_new' ho0 (Kd.R_lt (by (with_reducible repeat (first | apply Kd.R_alloc | apply Kd.R_drewN | apply Kd.R_drew)); exact HO526.out))) (Kd.R_lt (by (with_reducible repeat (first | apply Kd.R_alloc | apply Kd.R_drewN | apply Kd.R_drew)); exact HO529.out))) (below_size (by repeat (first | (with_reducible first | exact HB.out | apply below_alloc | apply pw_below_drewN | apply below_drew1 | refine below_set ?_ GE522.out) | exact HB.out)))); have n3_ := Aside0.mk (blk_below (g := gb522) (o := .cells #[.slice A0_0 l0_0.length c0_0, .slice A0_1 l0_1.length c0_1] 31 (0, 0)) (by (with_reducible repeat (first | refine blk_drewN ?_ _ | refine blk_drew ?_ | refine blk_alloc ?_ _)); exact BK522.out) hb); have n4_ := Aside0.mk (below_step (by repeat (first | (with_reducible first | exact HB.out | apply below_alloc | apply pw_below_drewN | apply below_drew1 | refine below_set ?_ GE522.out) | exact HB.out)) hb); clear HO526; clear HO529; clear BK522; clear HB; have HO526 := n0_; have HO529 := n1_; have HO532 := n2_; have BK522 := n3_; have HB := n4_; clear n0_ n1_ n2_ n3_ n4_; (try clear hb); (try clear hb2); (try clear hk); (try clear hi); (try clear ho0); have hcz22_0 : w21.cell? ⟨gb522, 0, none⟩ = some (.slice A0_0 l0_0.length c0_0) := (blk_cell BK522.out 0).trans rfl; have hcz22_1 : w21.cell? ⟨gb522, 1, none⟩ = some (.slice A0_1 l0_1.length c0_1) := (blk_cell BK522.out 1).trans rfl; have hfz22_0 := blk_frozen BK522.out 0; have hfz22_1 := blk_frozen BK522.out 1) | ((with_reducible refine gate_callee (f := 22) rfl ?_); refine goesL_ (some 32) rfl rfl Try.func22 (by kernel_rfl) rfl #[.agg #[.slice A0_0 l0_0.length c0_0, .slice A0_1 l0_1.length c0_1]] rfl (by (try simp only [List.map_toArray, List.map_cons, List.map_nil]); first | done | rfl | (simp only [List.length_drop, List.length_take]; rfl)) ?_; (with_reducible refine (laws_toSurface.calls k _ _ l0_0 _ _ l0_1 t534 t537 _ ?side1 ?side2 ?side3 ?side4 A11.out).mono ?_); (case side1 => repeat (first | exact (Kd.C_below HR0_0.out HB.out) | (with_reducible refine Kd.C_alloc ?_ _) | (with_reducible refine Kd.C_drewN ?_ _) | (with_reducible refine Kd.C_drew ?_))); (case side2 => exact HC0_0.out); (case side3 => repeat (first | exact (Kd.C_below HR0_1.out HB.out) | (with_reducible refine Kd.C_alloc ?_ _) | (with_reducible refine Kd.C_drewN ?_ _) | (with_reducible refine Kd.C_drew ?_))); (case side4 => exact HC0_1.out); rintro e w23 ⟨v535, v538, rfl, ho0, ho1, hb⟩; refine ⟨_, rfl, ?_⟩; have n0_ := Aside0.mk (Kd.R_mono (Kd.R_told (Kd.R_told (Kd.R_old (by (with_reducible repeat (first | apply Kd.R_alloc | apply Kd.R_drewN | apply Kd.R_drew)); exact HO526.out) hb) (Kd.R_base ho0)) (Kd.R_base ho1)) (fun _ h_ => h_.1)); have n1_ := Aside0.mk (Kd.R_mono (Kd.R_told (Kd.R_told (Kd.R_old (by (with_reducible repeat (first | apply Kd.R_alloc | apply Kd.R_drewN | apply Kd.R_drew)); exact HO529.out) hb) (Kd.R_base ho0)) (Kd.R_base ho1)) (fun _ h_ => h_.1)); have n2_ := Aside0.mk (Kd.R_mono (Kd.R_told (Kd.R_told (Kd.R_old (by (with_reducible repeat (first | apply Kd.R_alloc | apply Kd.R_drewN | apply Kd.R_drew)); exact HO532.out) hb) (Kd.R_base ho0)) (Kd.R_base ho1)) (fun _ h_ => h_.1)); have n3_ := Aside0.mk (Kd.R_lower (Kd.R_new' (Kd.R_new' (Kd.R_new' ho0 (Kd.R_lt (by (with_reducible repeat (first | apply Kd.R_alloc | apply Kd.R_drewN | apply Kd.R_drew)); exact HO526.out))) (Kd.R_lt (by (with_reducible repeat (first | apply Kd.R_alloc | apply Kd.R_drewN | apply Kd.R_drew)); exact HO529.out))) (Kd.R_lt (by (with_reducible repeat (first | apply Kd.R_alloc | apply Kd.R_drewN | apply Kd.R_drew)); exact HO532.out))) (below_size (by repeat (first | (with_reducible first | exact HB.out | apply below_alloc | apply pw_below_drewN | apply below_drew1 | refine below_set ?_ GE522.out) | exact HB.out)))); have n4_ := Aside0.mk (Kd.R_lower (Kd.R_new' (Kd.R_new' (Kd.R_new' ho1 (Kd.R_lt (by (with_reducible repeat (first | apply Kd.R_alloc | apply Kd.R_drewN | apply Kd.R_drew)); exact HO526.out))) (Kd.R_lt (by (with_reducible repeat (first | apply Kd.R_alloc | apply Kd.R_drewN | apply Kd.R_drew)); exact HO529.out))) (Kd.R_lt (by (with_reducible repeat (first | apply Kd.R_alloc | apply Kd.R_drewN | apply Kd.R_drew)); exact HO532.out))) (below_size (by repeat (first | (with_reducible first | exact HB.out | apply below_alloc | apply pw_below_drewN | apply below_drew1 | refine below_set ?_ GE522.out) | exact HB.out)))); have n5_ := Aside0.mk (blk_below (g := gb522) (o := .cells #[.slice A0_0 l0_0.length c0_0, .slice A0_1 l0_1.length c0_1] 31 (0, 0)) (by (with_reducible repeat (first | refine blk_drewN ?_ _ | refine blk_drew ?_ | refine blk_alloc ?_ _)); exact BK522.out) hb); have n6_ := Aside0.mk (below_step (by repeat (first | (with_reducible first | exact HB.out | apply below_alloc | apply pw_below_drewN | apply below_drew1 | refine below_set ?_ GE522.out) | exact HB.out)) hb); clear HO526; clear HO529; clear HO532; clear BK522; clear HB; have HO526 := n0_; have HO529 := n1_; have HO532 := n2_; have HO536 := n3_; have HO539 := n4_; have BK522 := n5_; have HB := n6_; clear n0_ n1_ n2_ n3_ n4_ n5_ n6_; (try clear hb); (try clear hb2); (try clear hk); (try clear hi); (try clear ho0); (try clear ho1)) | ((with_reducible refine gate_dst (N := 10) rfl ?_); refine box_event ?hg (N := 10) ?hd (cs := #[.slice none 0 0, .slice none 0 0]) (t := 34) ?hr ?_; (case hd => rfl); (case hg => rfl); (case hr => first | (go_simp; done) | (go_simp; rfl)); intro gb540 hg w24 hbox hb; have n0_ := Aside0.mk (Kd.R_below (by (with_reducible repeat (first | apply Kd.R_alloc | apply Kd.R_drewN | apply Kd.R_drew)); exact HO526.out) hb); have n1_ := Aside0.mk (Kd.R_below (by (with_reducible repeat (first | apply Kd.R_alloc | apply Kd.R_drewN | apply Kd.R_drew)); exact HO529.out) hb); have n2_ := Aside0.mk (Kd.R_below (by (with_reducible repeat (first | apply Kd.R_alloc | apply Kd.R_drewN | apply Kd.R_drew)); exact HO532.out) hb); have n3_ := Aside0.mk (Kd.R_below (by (with_reducible repeat (first | apply Kd.R_alloc | apply Kd.R_drewN | apply Kd.R_drew)); exact HO536.out) hb); have n4_ := Aside0.mk (Kd.R_below (by (with_reducible repeat (first | apply Kd.R_alloc | apply Kd.R_drewN | apply Kd.R_drew)); exact HO539.out) hb); have n5_ := Aside0.mk (blk_below (g := gb522) (o := .cells #[.slice A0_0 l0_0.length c0_0, .slice A0_1 l0_1.length c0_1] 31 (0, 0)) (by (with_reducible repeat (first | refine blk_drewN ?_ _ | refine blk_drew ?_ | refine blk_alloc ?_ _)); exact BK522.out) hb); have n6_ := Aside0.mk (below_step (by repeat (first | (with_reducible first | exact HB.out | apply below_alloc | apply pw_below_drewN | apply below_drew1 | refine below_set ?_ GE522.out) | exact HB.out)) hb); have n7_ := Aside0.mk (hbox); have n8_ := Aside0.mk ((by rw [hg]; exact (below_size (by repeat (first | (with_reducible first | exact HB.out | apply below_alloc | apply pw_below_drewN | apply below_drew1 | refine below_set ?_ GE522.out) | exact HB.out))) : w.heap.size ≤ gb540)); have n9_ := Aside0.mk ((by rw [hg]; exact (below_size (by repeat (first | (with_reducible first | exact HB.out | apply below_alloc | apply pw_below_drewN | apply below_drew1 | refine below_set ?_ GE522.out) | exact HB.out))) : w.heap.size ≤ gb540)); have n10_ := Aside0.mk ((by rw [hg]; exact Nat.ne_of_lt (blk_lt (g := gb522) (o := .cells #[.slice A0_0 l0_0.length c0_0, .slice A0_1 l0_1.length c0_1] 31 (0, 0)) (by (with_reducible repeat (first | refine blk_drewN ?_ _ | refine blk_drew ?_ | refine blk_alloc ?_ _)); exact BK522.out)) : gb522 ≠ gb540)); have n11_ := Aside0.mk ((by rw [hg]; exact Nat.ne_of_gt (blk_lt (g := gb522) (o := .cells #[.slice A0_0 l0_0.length c0_0, .slice A0_1 l0_1.length c0_1] 31 (0, 0)) (by (with_reducible repeat (first | refine blk_drewN ?_ _ | refine blk_drew ?_ | refine blk_alloc ?_ _)); exact BK522.out)) : gb540 ≠ gb522)); clear HO526; clear HO529; clear HO532; clear HO536; clear HO539; clear BK522; clear HB; have HO526 := n0_; have HO529 := n1_; have HO532 := n2_; have HO536 := n3_; have HO539 := n4_; have BK522 := n5_; have HB := n6_; have BK540 := n7_; have GW540 := n8_; have GE540 := n9_; have NB522_540 := n10_; have NB540_522 := n11_; clear n0_ n1_ n2_ n3_ n4_ n5_ n6_ n7_ n8_ n9_ n10_ n11_; clear hb hbox hg; obtain ⟨Ao25, co25, eo25⟩ := Kd.R_slice HO536.out; subst eo25; have hnb26 := NB540_522.out; have hnc26 := NB522_540.out; have hcz27_0 : w24.cell? ⟨gb540, 0, none⟩ = some (.slice none 0 0) := (blk_cell BK540.out 0).trans rfl; have hcz27_1 : w24.cell? ⟨gb540, 1, none⟩ = some (.slice none 0 0) := (blk_cell BK540.out 1).trans rfl; have hfz27_0 := blk_frozen BK540.out 0; have hfz27_1 := blk_frozen BK540.out 1; obtain ⟨Ao28, co28, eo28⟩ := Kd.R_slice HO539.out; subst eo28) | ((with_reducible refine gate_callee (f := 41) rfl ?_); refine goesL_ (some 37) rfl rfl Try.func41 (by kernel_rfl) rfl #[.agg #[.slice Ao25 t534.length co25, .slice Ao28 t537.length co28], .int .i64 a1, .int .i64 a2] rfl (by (try simp only [List.map_toArray, List.map_cons, List.map_nil]); first | done | rfl | (simp only [List.length_drop, List.length_take]; rfl)) ?_; (with_reducible refine (impl_PathPerm.calls k _ _ t534 _ _ t537 a1 a2 t541 t544 _ ?side1 ?side2 ?side3 ?side4 A12.out).mono ?_); (case side1 => refine (Kd.R_reads' (e := 3) (base := w.heap.size) (ok := fun k_ => (((some k_ ≠ (.slice Ao28 t537.length co28 : Value).ownBlock ∧ some k_ ≠ (.slice Ao19 t524.length co19 : Value).ownBlock) ∧ some k_ ≠ (.slice Ao20 t527.length co20 : Value).ownBlock) ∧ some k_ ≠ (v531 : Value).ownBlock)) (n := t534.length) (c := co25) ?_).2.2; exact (by (with_reducible repeat (first | apply Kd.R_alloc | apply Kd.R_drewN | apply Kd.R_drew)); exact (Kd.R_mono (Kd.R_far (p := ⟨gb540, 1, none⟩) (Kd.R_far (p := ⟨gb540, 0, none⟩) (Kd.R_types HO536.out BK540.out (by decide)) (fun _ hk => hk.2) (.slice Ao25 t534.length co25)) (fun _ hk => hk.2) (.slice Ao28 t537.length co28)) (fun _ h_ => h_.1)))); (case side2 => exact (Kd.R_reads' HO536.out).2.1); (case side3 => refine (Kd.R_reads' (e := 3) (base := w.heap.size) (ok := fun k_ => (((some k_ ≠ (.slice Ao25 t534.length co25 : Value).ownBlock ∧ some k_ ≠ (.slice Ao19 t524.length co19 : Value).ownBlock) ∧ some k_ ≠ (.slice Ao20 t527.length co20 : Value).ownBlock) ∧ some k_ ≠ (v531 : Value).ownBlock)) (n := t537.length) (c := co28) ?_).2.2; exact (by (with_reducible repeat (first | apply Kd.R_alloc | apply Kd.R_drewN | apply Kd.R_drew)); exact (Kd.R_mono (Kd.R_far (p := ⟨gb540, 1, none⟩) (Kd.R_far (p := ⟨gb540, 0, none⟩) (Kd.R_types HO539.out BK540.out (by decide)) (fun _ hk => hk.2) (.slice Ao25 t534.length co25)) (fun _ hk => hk.2) (.slice Ao28 t537.length co28)) (fun _ h_ => h_.1)))); (case side4 => exact (Kd.R_reads' HO539.out).2.1); rintro e w29 ⟨v542, rfl, ho0, hb⟩; refine ⟨_, rfl, ?_⟩; have n0_ := Aside0.mk (Kd.R_elder' (by (with_reducible repeat (first | apply Kd.R_alloc | apply Kd.R_drewN | apply Kd.R_drew)); exact (Kd.R_mono (Kd.R_far (p := ⟨gb540, 1, none⟩) (Kd.R_far (p := ⟨gb540, 0, none⟩) (Kd.R_types HO526.out BK540.out (by decide)) (fun _ hk => hk.2) (.slice Ao25 t534.length co25)) (fun _ hk => hk.2) (.slice Ao28 t537.length co28)) (fun _ h_ => h_.1))) (Kd.R_base ho0) hb); have n1_ := Aside0.mk (Kd.R_elder' (by (with_reducible repeat (first | apply Kd.R_alloc | apply Kd.R_drewN | apply Kd.R_drew)); exact (Kd.R_mono (Kd.R_far (p := ⟨gb540, 1, none⟩) (Kd.R_far (p := ⟨gb540, 0, none⟩) (Kd.R_types HO529.out BK540.out (by decide)) (fun _ hk => hk.2) (.slice Ao25 t534.length co25)) (fun _ hk => hk.2) (.slice Ao28 t537.length co28)) (fun _ h_ => h_.1))) (Kd.R_base ho0) hb); have n2_ := Aside0.mk (Kd.R_elder' (by (with_reducible repeat (first | apply Kd.R_alloc | apply Kd.R_drewN | apply Kd.R_drew)); exact (Kd.R_mono (Kd.R_far (p := ⟨gb540, 1, none⟩) (Kd.R_far (p := ⟨gb540, 0, none⟩) (Kd.R_types HO532.out BK540.out (by decide)) (fun _ hk => hk.2) (.slice Ao25 t534.length co25)) (fun _ hk => hk.2) (.slice Ao28 t537.length co28)) (fun _ h_ => h_.1))) (Kd.R_base ho0) hb); have n3_ := Aside0.mk (Kd.R_elder' (by (with_reducible repeat (first | apply Kd.R_alloc | apply Kd.R_drewN | apply Kd.R_drew)); exact (Kd.R_mono (Kd.R_far (p := ⟨gb540, 1, none⟩) (Kd.R_far (p := ⟨gb540, 0, none⟩) (Kd.R_types HO536.out BK540.out (by decide)) (fun _ hk => hk.2) (.slice Ao25 t534.length co25)) (fun _ hk => hk.2) (.slice Ao28 t537.length co28)) (fun _ h_ => h_.1))) (Kd.R_base ho0) hb); have n4_ := Aside0.mk (Kd.R_elder' (by (with_reducible repeat (first | apply Kd.R_alloc | apply Kd.R_drewN | apply Kd.R_drew)); exact (Kd.R_mono (Kd.R_far (p := ⟨gb540, 1, none⟩) (Kd.R_far (p := ⟨gb540, 0, none⟩) (Kd.R_types HO539.out BK540.out (by decide)) (fun _ hk => hk.2) (.slice Ao25 t534.length co25)) (fun _ hk => hk.2) (.slice Ao28 t537.length co28)) (fun _ h_ => h_.1))) (Kd.R_base ho0) hb); have n5_ := Aside0.mk (Kd.R_lower (Kd.R_new' (Kd.R_new' (Kd.R_new' (Kd.R_new' (Kd.R_new' ho0 (Kd.R_lt (by (with_reducible repeat (first | apply Kd.R_alloc | apply Kd.R_drewN | apply Kd.R_drew)); exact (Kd.R_mono (Kd.R_far (p := ⟨gb540, 1, none⟩) (Kd.R_far (p := ⟨gb540, 0, none⟩) (Kd.R_types HO526.out BK540.out (by decide)) (fun _ hk => hk.2) (.slice Ao25 t534.length co25)) (fun _ hk => hk.2) (.slice Ao28 t537.length co28)) (fun _ h_ => h_.1))))) (Kd.R_lt (by (with_reducible repeat (first | apply Kd.R_alloc | apply Kd.R_drewN | apply Kd.R_drew)); exact (Kd.R_mono (Kd.R_far (p := ⟨gb540, 1, none⟩) (Kd.R_far (p := ⟨gb540, 0, none⟩) (Kd.R_types HO529.out BK540.out (by decide)) (fun _ hk => hk.2) (.slice Ao25 t534.length co25)) (fun _ hk => hk.2) (.slice Ao28 t537.length co28)) (fun _ h_ => h_.1))))) (Kd.R_lt (by (with_reducible repeat (first | apply Kd.R_alloc | apply Kd.R_drewN | apply Kd.R_drew)); exact (Kd.R_mono (Kd.R_far (p := ⟨gb540, 1, none⟩) (Kd.R_far (p := ⟨gb540, 0, none⟩) (Kd.R_types HO532.out BK540.out (by decide)) (fun _ hk => hk.2) (.slice Ao25 t534.length co25)) (fun _ hk => hk.2) (.slice Ao28 t537.length co28)) (fun _ h_ => h_.1))))) (Kd.R_lt (by (with_reducible repeat (first | apply Kd.R_alloc | apply Kd.R_drewN | apply Kd.R_drew)); exact (Kd.R_mono (Kd.R_far (p := ⟨gb540, 1, none⟩) (Kd.R_far (p := ⟨gb540, 0, none⟩) (Kd.R_types HO536.out BK540.out (by decide)) (fun _ hk => hk.2) (.slice Ao25 t534.length co25)) (fun _ hk => hk.2) (.slice Ao28 t537.length co28)) (fun _ h_ => h_.1))))) (Kd.R_lt (by (with_reducible repeat (first | apply Kd.R_alloc | apply Kd.R_drewN | apply Kd.R_drew)); exact (Kd.R_mono (Kd.R_far (p := ⟨gb540, 1, none⟩) (Kd.R_far (p := ⟨gb540, 0, none⟩) (Kd.R_types HO539.out BK540.out (by decide)) (fun _ hk => hk.2) (.slice Ao25 t534.length co25)) (fun _ hk => hk.2) (.slice Ao28 t537.length co28)) (fun _ h_ => h_.1))))) (below_size (by repeat (first | (with_reducible first | exact HB.out | apply below_alloc | apply pw_below_drewN | apply below_drew1 | refine below_set ?_ GE522.out | refine below_set ?_ GE540.out) | exact HB.out)))); have n6_ := Aside0.mk (blk_below (g := gb522) (o := .cells #[.slice A0_0 l0_0.length c0_0, .slice A0_1 l0_1.length c0_1] 31 (0, 0)) (by (with_reducible repeat (first | refine blk_drewN ?_ _ | refine blk_drew ?_ | refine blk_alloc ?_ _)); refine blk_far ?_ NB522_540.out _; (with_reducible repeat (first | refine blk_drewN ?_ _ | refine blk_drew ?_ | refine blk_alloc ?_ _)); refine blk_far ?_ NB522_540.out _; (with_reducible repeat (first | refine blk_drewN ?_ _ | refine blk_drew ?_ | refine blk_alloc ?_ _)); exact BK522.out) hb); have n7_ := Aside0.mk (blk_below (g := gb540) (o := .cells #[.slice Ao25 t534.length co25, .slice Ao28 t537.length co28] 34 (0, 0)) (by (with_reducible repeat (first | refine blk_drewN ?_ _ | refine blk_drew ?_ | refine blk_alloc ?_ _)); refine blk_put (cs := #[.slice Ao25 t534.length co25, .slice none 0 0]) ?_ 1 _ rfl; (with_reducible repeat (first | refine blk_drewN ?_ _ | refine blk_drew ?_ | refine blk_alloc ?_ _)); refine blk_put (cs := #[.slice none 0 0, .slice none 0 0]) ?_ 0 _ rfl; (with_reducible repeat (first | refine blk_drewN ?_ _ | refine blk_drew ?_ | refine blk_alloc ?_ _)); exact BK540.out) hb); have n8_ := Aside0.mk (below_step (by repeat (first | (with_reducible first | exact HB.out | apply below_alloc | apply pw_below_drewN | apply below_drew1 | refine below_set ?_ GE522.out | refine below_set ?_ GE540.out) | exact HB.out)) hb); clear HO526; clear HO529; clear HO532; clear HO536; clear HO539; clear BK522; clear BK540; clear HB; have HO526 := n0_; have HO529 := n1_; have HO532 := n2_; have HO536 := n3_; have HO539 := n4_; have HO543 := n5_; have BK522 := n6_; have BK540 := n7_; have HB := n8_; clear n0_ n1_ n2_ n3_ n4_ n5_ n6_ n7_ n8_; (try clear hb); (try clear hb2); (try clear hk); (try clear hi); (try clear ho0)))
    (try simp only [Act.put, List.setIfInBounds_toArray, List.set_cons_zero, List.set_cons_succ])
    go_cut [48] (fun v48 wc => ∃ (kq : Nat) (x48_12 : Bool), v48 = .bool x48_12 ∧ Aside0 (laws_FnExactPathPerm.j0 kq a1 a2 t530 t533 t541 t544 x48_12 l0_0 l0_1 t534 t537 = some r) ∧ Aside0 (kq ≤ k) ∧ Aside0 (Kd.R (Kd.int .i64) 3 wc w.heap.size (fun k_ => some k_ ≠ (v542 : Value).ownBlock ∧ some k_ ≠ ((.slice Ao25 t534.length co25) : Value).ownBlock ∧ some k_ ≠ ((.slice Ao28 t537.length co28) : Value).ownBlock) v531 t530) ∧ Aside0 (Kd.R (Kd.int .i64) 3 wc w.heap.size (fun k_ => some k_ ≠ (v531 : Value).ownBlock ∧ some k_ ≠ ((.slice Ao25 t534.length co25) : Value).ownBlock ∧ some k_ ≠ ((.slice Ao28 t537.length co28) : Value).ownBlock) v542 t541) ∧ Aside0 (Kd.R (Kd.int .i64) 3 wc w.heap.size (fun k_ => some k_ ≠ (v531 : Value).ownBlock ∧ some k_ ≠ (v542 : Value).ownBlock ∧ some k_ ≠ ((.slice Ao28 t537.length co28) : Value).ownBlock) (.slice Ao25 t534.length co25) t534) ∧ Aside0 (Kd.R (Kd.int .i64) 3 wc w.heap.size (fun k_ => some k_ ≠ (v531 : Value).ownBlock ∧ some k_ ≠ (v542 : Value).ownBlock ∧ some k_ ≠ ((.slice Ao25 t534.length co25) : Value).ownBlock) (.slice Ao28 t537.length co28) t537) ∧ Aside0 (wc.heap[gb522]? = some (.cells #[(.slice A0_0 l0_0.length c0_0), (.slice A0_1 l0_1.length c0_1)] 31 (0, 0))) ∧ Aside0 (wc.heap[gb540]? = some (.cells #[(.slice Ao25 t534.length co25), (.slice Ao28 t537.length co28)] 34 (0, 0))) ∧ Aside0 (Below w.heap.size w wc))
    case first =>
      have H := HC13.out
      clear HC13
      replace H := Option.bind_eq_some_iff.mp H
      obtain ⟨t545, A300, H⟩ := H
      replace H : (if t545 = true then (laws_FnExactPathPerm.j0 k a1 a2 t530 t533 t541 t544 (t544 != t533) l0_0 l0_1 t534 t537) else (laws_FnExactPathPerm.j0 k a1 a2 t530 t533 t541 t544 true l0_0 l0_1 t534 t537)) = some r := H
      have A30 := Aside0.mk A300
      clear A300
      by_cases c31 : t545 = true
      · subst c31
        have H1 : (laws_FnExactPathPerm.j0 k a1 a2 t530 t533 t541 t544 (t544 != t533) l0_0 l0_1 t534 t537) = some r := by rw [if_pos rfl] at H; exact H
        clear H
        have H := H1
        clear H1
        have H' := Aside0.mk H
        clear H
        obtain ⟨Ao32, co32, eo32⟩ := Kd.R_slice HO543.out
        subst eo32
        obtain ⟨Ao33, co33, eo33⟩ := Kd.R_slice HO532.out
        subst eo33
        go_wp2_with (first | ((with_reducible refine gate_callee (f := 26) rfl ?_); refine goesL_ (some 42) rfl rfl Try.func26 (by kernel_rfl) rfl #[.slice Ao32 t541.length co32, .slice Ao33 t530.length co33] rfl (by (try simp only [List.map_toArray, List.map_cons, List.map_nil]); first | done | rfl | (simp only [List.length_drop, List.length_take]; rfl)) ?_; (with_reducible refine (laws_eqIntS.calls k _ _ t541 _ _ t530 true _ ?side1 ?side2 ?side3 ?side4 A30.out).mono ?_); (case side1 => repeat (first | exact (Kd.R_reads' HO543.out).2.2 | (with_reducible refine Kd.C_alloc ?_ _) | (with_reducible refine Kd.C_drewN ?_ _) | (with_reducible refine Kd.C_drew ?_))); (case side2 => exact (Kd.R_reads' HO543.out).2.1); (case side3 => repeat (first | exact (Kd.R_reads' HO532.out).2.2 | (with_reducible refine Kd.C_alloc ?_ _) | (with_reducible refine Kd.C_drewN ?_ _) | (with_reducible refine Kd.C_drew ?_))); (case side4 => exact (Kd.R_reads' HO532.out).2.1); rintro e w' ⟨rfl, ⟨nd, rfl⟩⟩; refine ⟨_, rfl, ?_⟩))
        go_meet
        case rel => exact ⟨_, ((t544 != t533)), (by first | rfl | (simp; done) | (simp [*]; done)), H', ⟨by first | omega | exact Nat.le_refl _⟩, ⟨by (with_reducible repeat (first | apply Kd.R_alloc | apply Kd.R_drewN | apply Kd.R_drew)); exact Kd.R_mono HO532.out (fun _ hk => ⟨hk.2, ⟨hk.1.1.2, hk.1.2⟩⟩)⟩, ⟨by (with_reducible repeat (first | apply Kd.R_alloc | apply Kd.R_drewN | apply Kd.R_drew)); exact Kd.R_mono HO543.out (fun _ hk => ⟨hk.1.1.2, ⟨hk.1.2, hk.2⟩⟩)⟩, ⟨by (with_reducible repeat (first | apply Kd.R_alloc | apply Kd.R_drewN | apply Kd.R_drew)); exact Kd.R_mono HO536.out (fun _ hk => ⟨hk.1.2, ⟨hk.2, hk.1.1.1.1⟩⟩)⟩, ⟨by (with_reducible repeat (first | apply Kd.R_alloc | apply Kd.R_drewN | apply Kd.R_drew)); exact Kd.R_mono HO539.out (fun _ hk => ⟨hk.1.2, ⟨hk.2, hk.1.1.1.1⟩⟩)⟩, ⟨by (with_reducible repeat (first | refine blk_drewN ?_ _ | refine blk_drew ?_ | refine blk_alloc ?_ _)); exact BK522.out⟩, ⟨by (with_reducible repeat (first | refine blk_drewN ?_ _ | refine blk_drew ?_ | refine blk_alloc ?_ _)); exact BK540.out⟩, ⟨by repeat (first | (with_reducible first | exact HB.out | apply below_alloc | apply pw_below_drewN | apply below_drew1 | refine below_set ?_ GE522.out | refine below_set ?_ GE540.out) | exact HB.out)⟩⟩
      · replace c31 := Bool.eq_false_iff.mpr c31
        subst c31
        have H1 : (laws_FnExactPathPerm.j0 k a1 a2 t530 t533 t541 t544 true l0_0 l0_1 t534 t537) = some r := by rw [if_neg (show ¬ (false = true) by decide)] at H; exact H
        clear H
        have H := H1
        clear H1
        have H' := Aside0.mk H
        clear H
        obtain ⟨Ao34, co34, eo34⟩ := Kd.R_slice HO543.out
        subst eo34
        obtain ⟨Ao35, co35, eo35⟩ := Kd.R_slice HO532.out
        subst eo35
        go_wp2_with (first | ((with_reducible refine gate_callee (f := 26) rfl ?_); refine goesL_ (some 42) rfl rfl Try.func26 (by kernel_rfl) rfl #[.slice Ao34 t541.length co34, .slice Ao35 t530.length co35] rfl (by (try simp only [List.map_toArray, List.map_cons, List.map_nil]); first | done | rfl | (simp only [List.length_drop, List.length_take]; rfl)) ?_; (with_reducible refine (laws_eqIntS.calls k _ _ t541 _ _ t530 false _ ?side1 ?side2 ?side3 ?side4 A30.out).mono ?_); (case side1 => repeat (first | exact (Kd.R_reads' HO543.out).2.2 | (with_reducible refine Kd.C_alloc ?_ _) | (with_reducible refine Kd.C_drewN ?_ _) | (with_reducible refine Kd.C_drew ?_))); (case side2 => exact (Kd.R_reads' HO543.out).2.1); (case side3 => repeat (first | exact (Kd.R_reads' HO532.out).2.2 | (with_reducible refine Kd.C_alloc ?_ _) | (with_reducible refine Kd.C_drewN ?_ _) | (with_reducible refine Kd.C_drew ?_))); (case side4 => exact (Kd.R_reads' HO532.out).2.1); rintro e w' ⟨rfl, ⟨nd, rfl⟩⟩; refine ⟨_, rfl, ?_⟩))
        go_meet
        case rel => exact ⟨_, (true), (by first | rfl | (simp; done) | (simp [*]; done)), H', ⟨by first | omega | exact Nat.le_refl _⟩, ⟨by (with_reducible repeat (first | apply Kd.R_alloc | apply Kd.R_drewN | apply Kd.R_drew)); exact Kd.R_mono HO532.out (fun _ hk => ⟨hk.2, ⟨hk.1.1.2, hk.1.2⟩⟩)⟩, ⟨by (with_reducible repeat (first | apply Kd.R_alloc | apply Kd.R_drewN | apply Kd.R_drew)); exact Kd.R_mono HO543.out (fun _ hk => ⟨hk.1.1.2, ⟨hk.1.2, hk.2⟩⟩)⟩, ⟨by (with_reducible repeat (first | apply Kd.R_alloc | apply Kd.R_drewN | apply Kd.R_drew)); exact Kd.R_mono HO536.out (fun _ hk => ⟨hk.1.2, ⟨hk.2, hk.1.1.1.1⟩⟩)⟩, ⟨by (with_reducible repeat (first | apply Kd.R_alloc | apply Kd.R_drewN | apply Kd.R_drew)); exact Kd.R_mono HO539.out (fun _ hk => ⟨hk.1.2, ⟨hk.2, hk.1.1.1.1⟩⟩)⟩, ⟨by (with_reducible repeat (first | refine blk_drewN ?_ _ | refine blk_drew ?_ | refine blk_alloc ?_ _)); exact BK522.out⟩, ⟨by (with_reducible repeat (first | refine blk_drewN ?_ _ | refine blk_drew ?_ | refine blk_alloc ?_ _)); exact BK540.out⟩, ⟨by repeat (first | (with_reducible first | exact HB.out | apply below_alloc | apply pw_below_drewN | apply below_drew1 | refine below_set ?_ GE522.out | refine below_set ?_ GE540.out) | exact HB.out)⟩⟩
    case rest =>
      clear HC13
      try clear c2
      try clear p2
      try clear c3
      try clear c4
      try clear c5
      try clear c5b0
      try clear c9
      try clear c20
      try clear c22
      try clear c26
      try clear c31
      try clear hcz15_0
      try clear hcz15_1
      try clear hcz17_0
      try clear hcz17_1
      try clear hcz22_0
      try clear hcz22_1
      try clear hcz27_0
      try clear hcz27_1
      try clear hcz7_0
      try clear hcz7_1
      try clear hfz15_0
      try clear hfz15_1
      try clear hfz17_0
      try clear hfz17_1
      try clear hfz22_0
      try clear hfz22_1
      try clear hfz27_0
      try clear hfz27_1
      try clear hfz7_0
      try clear hfz7_1
      obtain ⟨kq, x48_12, rfl, HA, HJ12, HO_8, HO_11, HO_541000, HO_541001, BK522, BK540, HB⟩ := hcut
      cases kq with
      | zero => exact absurd HA.out (by simp [laws_FnExactPathPerm.j0])
      | succ kj12 =>
        have H := HA.out
        clear HA
        simp only [laws_FnExactPathPerm.j0] at H
        by_cases c36 : x48_12 = true
        · subst c36
          have H1 : (some false) = some r := by rw [if_pos rfl] at H; exact H
          clear H
          have H := H1
          clear H1
          exact absurd (Option.some.inj H) (by rw [hr1_.out]; decide)
        · replace c36 := Bool.eq_false_iff.mpr c36
          subst c36
          have H1 : ((laws_toSurface.f kj12 l0_0 l0_1).bind fun bt546 => ((laws_eqSurface.f kj12 t534 t537 bt546.1 bt546.2).bind fun t552 => (if t552 = true then ((laws_markSurface.f kj12 t534 t537 1).bind fun bt553 => (if bt553.1 < 0 then (laws_FnExactPathPerm.j1 kj12 a1 a2 t530 t533 t541 true l0_0 l0_1) else ((laws_eqIntS.f kj12 t541 t530).bind fun t556 => (if t556 = true then (laws_FnExactPathPerm.j1 kj12 a1 a2 t530 t533 t541 (t544 != t533) l0_0 l0_1) else (laws_FnExactPathPerm.j1 kj12 a1 a2 t530 t533 t541 true l0_0 l0_1))))) else (some false)))) = some r := by rw [if_neg (show ¬ (false = true) by decide)] at H; exact H
          clear H
          have H := H1
          clear H1
          replace H := Option.bind_eq_some_iff.mp H
          obtain ⟨⟨t546, t549⟩, A370, H⟩ := H
          replace H : ((laws_eqSurface.f kj12 t534 t537 t546 t549).bind fun t552 => (if t552 = true then ((laws_markSurface.f kj12 t534 t537 1).bind fun bt553 => (if bt553.1 < 0 then (laws_FnExactPathPerm.j1 kj12 a1 a2 t530 t533 t541 true l0_0 l0_1) else ((laws_eqIntS.f kj12 t541 t530).bind fun t556 => (if t556 = true then (laws_FnExactPathPerm.j1 kj12 a1 a2 t530 t533 t541 (t544 != t533) l0_0 l0_1) else (laws_FnExactPathPerm.j1 kj12 a1 a2 t530 t533 t541 true l0_0 l0_1))))) else (some false))) = some r := H
          have A37 := Aside0.mk A370
          clear A370
          replace H := Option.bind_eq_some_iff.mp H
          obtain ⟨t552, A380, H⟩ := H
          replace H : (if t552 = true then ((laws_markSurface.f kj12 t534 t537 1).bind fun bt553 => (if bt553.1 < 0 then (laws_FnExactPathPerm.j1 kj12 a1 a2 t530 t533 t541 true l0_0 l0_1) else ((laws_eqIntS.f kj12 t541 t530).bind fun t556 => (if t556 = true then (laws_FnExactPathPerm.j1 kj12 a1 a2 t530 t533 t541 (t544 != t533) l0_0 l0_1) else (laws_FnExactPathPerm.j1 kj12 a1 a2 t530 t533 t541 true l0_0 l0_1))))) else (some false)) = some r := H
          have A38 := Aside0.mk A380
          clear A380
          by_cases c39 : t552 = true
          · subst c39
            have H1 : ((laws_markSurface.f kj12 t534 t537 1).bind fun bt553 => (if bt553.1 < 0 then (laws_FnExactPathPerm.j1 kj12 a1 a2 t530 t533 t541 true l0_0 l0_1) else ((laws_eqIntS.f kj12 t541 t530).bind fun t556 => (if t556 = true then (laws_FnExactPathPerm.j1 kj12 a1 a2 t530 t533 t541 (t544 != t533) l0_0 l0_1) else (laws_FnExactPathPerm.j1 kj12 a1 a2 t530 t533 t541 true l0_0 l0_1))))) = some r := by rw [if_pos rfl] at H; exact H
            clear H
            have H := H1
            clear H1
            replace H := Option.bind_eq_some_iff.mp H
            obtain ⟨⟨t553, t554, t555⟩, A400, H⟩ := H
            replace H : (if t553 < 0 then (laws_FnExactPathPerm.j1 kj12 a1 a2 t530 t533 t541 true l0_0 l0_1) else ((laws_eqIntS.f kj12 t541 t530).bind fun t556 => (if t556 = true then (laws_FnExactPathPerm.j1 kj12 a1 a2 t530 t533 t541 (t544 != t533) l0_0 l0_1) else (laws_FnExactPathPerm.j1 kj12 a1 a2 t530 t533 t541 true l0_0 l0_1)))) = some r := H
            have A40 := Aside0.mk A400
            clear A400
            have HC41 := Aside0.mk H
            clear H
            try go_wp2
            have n0_ := Aside0.mk (Kd.R_drew HO_8.out)
            have n1_ := Aside0.mk (Kd.R_drew HO_11.out)
            have n2_ := Aside0.mk (Kd.R_drew HO_541000.out)
            have n3_ := Aside0.mk (Kd.R_drew HO_541001.out)
            have n4_ := Aside0.mk (blk_drew BK522.out)
            have n5_ := Aside0.mk (blk_drew BK540.out)
            have n6_ := Aside0.mk (below_drew1 HB.out)
            clear HO_8
            clear HO_11
            clear HO_541000
            clear HO_541001
            clear BK522
            clear BK540
            clear HB
            have HO_8 := n0_
            have HO_11 := n1_
            have HO_541000 := n2_
            have HO_541001 := n3_
            have BK522 := n4_
            have BK540 := n5_
            have HB := n6_
            clear n0_ n1_ n2_ n3_ n4_ n5_ n6_
            refine start_ (n := 5) (S := fun w' => w'.cell? ⟨gb540, 0, none⟩ = some (.slice Ao25 t534.length co25) ∧ w'.cell? ⟨gb540, 1, none⟩ = some (.slice Ao28 t537.length co28) ∧ w'.cell? ⟨gb522, 0, none⟩ = some (.slice A0_0 l0_0.length c0_0) ∧ w'.cell? ⟨gb522, 1, none⟩ = some (.slice A0_1 l0_1.length c0_1)) (ds := []) #[false, false, false, false, false] (by kernel_rfl) rfl rfl ⟨(blk_cell BK540.out 0).trans rfl, (blk_cell BK540.out 1).trans rfl, (blk_cell BK522.out 0).trans rfl, (blk_cell BK522.out 1).trans rfl⟩ (fun hHeld => ?_)
            generalize wc.drew = w42 at HO_8 HO_11 HO_541000 HO_541001 BK522 BK540 HB hHeld ⊢
            refine take_ (i := 0) (N := some 49) (v := ?_) (a' := ?_) #[true, false, false, false, false] rfl rfl (by kernel_rfl) (fun _ _ _ h => h) (Or.inl ⟨by rfl, ?_⟩) hHeld ?_ ?_
            rotate_left
            · rintro w' ⟨s0, s1, s2, s3⟩
              go_simp
              with_reducible rfl
            rotate_left
            · simp only [Act.put, List.setIfInBounds_toArray, List.set_cons_zero, List.set_cons_succ, i64_w, i32_w]
              rfl
            refine take_ (i := 1) (N := some 50) (v := ?_) (a' := ?_) #[true, true, false, false, false] rfl rfl (by kernel_rfl) (fun _ _ _ h => h) (Or.inl ⟨by rfl, ?_⟩) hHeld ?_ ?_
            rotate_left
            · rintro w' ⟨s0, s1, s2, s3⟩
              go_simp
              with_reducible rfl
            rotate_left
            · simp only [Act.put, List.setIfInBounds_toArray, List.set_cons_zero, List.set_cons_succ, i64_w, i32_w]
              rfl
            refine one_ (i := 2) (N := some 51) #[true, true, true, false, false] rfl rfl (by kernel_rfl) (by decide) (fun K hK => ?_)
            refine goes_ Try.func22 (by kernel_rfl) rfl #[.agg #[.slice A0_0 l0_0.length c0_0, .slice A0_1 l0_1.length c0_1]] (by rfl) rfl rfl (by (try simp only [List.map_toArray, List.map_cons, List.map_nil]); first | done | rfl | (simp only [List.length_drop, List.length_take]; rfl)) ?_
            with_reducible refine (laws_toSurface.calls kj12 _ _ l0_0 _ _ l0_1 t546 t549 _ ?side1 ?side2 ?side3 ?side4 A37.out).mono ?_
            (case side1 => repeat (first | exact (Kd.C_below HR0_0.out HB.out) | (with_reducible refine Kd.C_alloc ?_ _) | (with_reducible refine Kd.C_drewN ?_ _) | (with_reducible refine Kd.C_drew ?_)))
            (case side2 => exact HC0_0.out)
            (case side3 => repeat (first | exact (Kd.C_below HR0_1.out HB.out) | (with_reducible refine Kd.C_alloc ?_ _) | (with_reducible refine Kd.C_drewN ?_ _) | (with_reducible refine Kd.C_drew ?_)))
            (case side4 => exact HC0_1.out)
            rintro e w43 ⟨v547, v550, rfl, ho0, ho1, hb⟩
            refine ⟨_, rfl, ?_⟩
            have n0_ := Aside0.mk (Kd.R_mono (Kd.R_told (Kd.R_told (Kd.R_old (by (with_reducible repeat (first | apply Kd.R_alloc | apply Kd.R_drewN | apply Kd.R_drew)); exact HO_8.out) hb) (Kd.R_base ho0)) (Kd.R_base ho1)) (fun _ h_ => h_.1))
            have n1_ := Aside0.mk (Kd.R_mono (Kd.R_told (Kd.R_told (Kd.R_old (by (with_reducible repeat (first | apply Kd.R_alloc | apply Kd.R_drewN | apply Kd.R_drew)); exact HO_11.out) hb) (Kd.R_base ho0)) (Kd.R_base ho1)) (fun _ h_ => h_.1))
            have n2_ := Aside0.mk (Kd.R_mono (Kd.R_told (Kd.R_told (Kd.R_old (by (with_reducible repeat (first | apply Kd.R_alloc | apply Kd.R_drewN | apply Kd.R_drew)); exact HO_541000.out) hb) (Kd.R_base ho0)) (Kd.R_base ho1)) (fun _ h_ => h_.1))
            have n3_ := Aside0.mk (Kd.R_mono (Kd.R_told (Kd.R_told (Kd.R_old (by (with_reducible repeat (first | apply Kd.R_alloc | apply Kd.R_drewN | apply Kd.R_drew)); exact HO_541001.out) hb) (Kd.R_base ho0)) (Kd.R_base ho1)) (fun _ h_ => h_.1))
            have n4_ := Aside0.mk (Kd.R_lower (Kd.R_new' (Kd.R_new' (Kd.R_new' (Kd.R_new' ho0 (Kd.R_lt (by (with_reducible repeat (first | apply Kd.R_alloc | apply Kd.R_drewN | apply Kd.R_drew)); exact HO_8.out))) (Kd.R_lt (by (with_reducible repeat (first | apply Kd.R_alloc | apply Kd.R_drewN | apply Kd.R_drew)); exact HO_11.out))) (Kd.R_lt (by (with_reducible repeat (first | apply Kd.R_alloc | apply Kd.R_drewN | apply Kd.R_drew)); exact HO_541000.out))) (Kd.R_lt (by (with_reducible repeat (first | apply Kd.R_alloc | apply Kd.R_drewN | apply Kd.R_drew)); exact HO_541001.out))) (below_size (by repeat (first | (with_reducible first | exact HB.out | apply below_alloc | apply pw_below_drewN | apply below_drew1 | refine below_set ?_ GE522.out | refine below_set ?_ GE540.out) | exact HB.out))))
            have n5_ := Aside0.mk (Kd.R_lower (Kd.R_new' (Kd.R_new' (Kd.R_new' (Kd.R_new' ho1 (Kd.R_lt (by (with_reducible repeat (first | apply Kd.R_alloc | apply Kd.R_drewN | apply Kd.R_drew)); exact HO_8.out))) (Kd.R_lt (by (with_reducible repeat (first | apply Kd.R_alloc | apply Kd.R_drewN | apply Kd.R_drew)); exact HO_11.out))) (Kd.R_lt (by (with_reducible repeat (first | apply Kd.R_alloc | apply Kd.R_drewN | apply Kd.R_drew)); exact HO_541000.out))) (Kd.R_lt (by (with_reducible repeat (first | apply Kd.R_alloc | apply Kd.R_drewN | apply Kd.R_drew)); exact HO_541001.out))) (below_size (by repeat (first | (with_reducible first | exact HB.out | apply below_alloc | apply pw_below_drewN | apply below_drew1 | refine below_set ?_ GE522.out | refine below_set ?_ GE540.out) | exact HB.out))))
            have n6_ := Aside0.mk (blk_below (g := gb522) (o := .cells #[.slice A0_0 l0_0.length c0_0, .slice A0_1 l0_1.length c0_1] 31 (0, 0)) (by (with_reducible repeat (first | refine blk_drewN ?_ _ | refine blk_drew ?_ | refine blk_alloc ?_ _)); exact BK522.out) hb)
            have n7_ := Aside0.mk (blk_below (g := gb540) (o := .cells #[.slice Ao25 t534.length co25, .slice Ao28 t537.length co28] 34 (0, 0)) (by (with_reducible repeat (first | refine blk_drewN ?_ _ | refine blk_drew ?_ | refine blk_alloc ?_ _)); exact BK540.out) hb)
            have n8_ := Aside0.mk (below_step (by repeat (first | (with_reducible first | exact HB.out | apply below_alloc | apply pw_below_drewN | apply below_drew1 | refine below_set ?_ GE522.out | refine below_set ?_ GE540.out) | exact HB.out)) hb)
            clear HO_8
            clear HO_11
            clear HO_541000
            clear HO_541001
            clear BK522
            clear BK540
            clear HB
            have HO_8 := n0_
            have HO_11 := n1_
            have HO_541000 := n2_
            have HO_541001 := n3_
            have HO548 := n4_
            have HO551 := n5_
            have BK522 := n6_
            have BK540 := n7_
            have HB := n8_
            clear n0_ n1_ n2_ n3_ n4_ n5_ n6_ n7_ n8_
            (try clear hb)
            (try clear hb2)
            (try clear hk)
            (try clear hi)
            (try clear ho0)
            (try clear ho1)
            obtain ⟨Ao44, co44, eo44⟩ := Kd.R_slice HO548.out
            (first | subst eo44 | (injection eo44 with f1_ f2_ f3_; have f4_ := f1_.symm; have f5_ := f3_.symm; clear f1_ f2_ f3_; subst f4_; subst f5_))
            obtain ⟨Ao45, co45, eo45⟩ := Kd.R_slice HO551.out
            (first | subst eo45 | (injection eo45 with f1_ f2_ f3_; have f4_ := f1_.symm; have f5_ := f3_.symm; clear f1_ f2_ f3_; subst f4_; subst f5_))
            refine hK.out _ _ ⟨(blk_cell BK540.out 0).trans rfl, (blk_cell BK540.out 1).trans rfl, (blk_cell BK522.out 0).trans rfl, (blk_cell BK522.out 1).trans rfl⟩ (fun hHeld => ?_)
            clear hK K
            refine norm_ (a' := ?_) ?_ ?_
            rotate_left
            · show Act.put _ (some 51) _ = _
              simp only [Act.put, List.setIfInBounds_toArray, List.set_cons_zero, List.set_cons_succ, i64_w, i32_w]
              rfl
            refine one_ (i := 3) (N := some 52) #[true, true, true, true, false] rfl rfl (by kernel_rfl) (by decide) (fun K hK => ?_)
            refine goes_ Try.func25 (by kernel_rfl) rfl #[.agg #[.slice Ao25 t534.length co25, .slice Ao28 t537.length co28], .agg #[.slice Ao44 t546.length co44, .slice Ao45 t549.length co45]] (by rfl) rfl rfl (by (try simp only [List.map_toArray, List.map_cons, List.map_nil]); first | done | rfl | (simp only [List.length_drop, List.length_take]; rfl)) ?_
            with_reducible refine (laws_eqSurface.calls kj12 _ _ t534 _ _ t537 _ _ t546 _ _ t549 true _ ?side1 ?side2 ?side3 ?side4 ?side5 ?side6 ?side7 ?side8 A38.out).mono ?_
            (case side1 => repeat (first | exact (Kd.R_reads' HO_541000.out).2.2 | (with_reducible refine Kd.C_alloc ?_ _) | (with_reducible refine Kd.C_drewN ?_ _) | (with_reducible refine Kd.C_drew ?_)))
            (case side2 => exact (Kd.R_reads' HO_541000.out).2.1)
            (case side3 => repeat (first | exact (Kd.R_reads' HO_541001.out).2.2 | (with_reducible refine Kd.C_alloc ?_ _) | (with_reducible refine Kd.C_drewN ?_ _) | (with_reducible refine Kd.C_drew ?_)))
            (case side4 => exact (Kd.R_reads' HO_541001.out).2.1)
            (case side5 => repeat (first | exact (Kd.R_reads' HO548.out).2.2 | (with_reducible refine Kd.C_alloc ?_ _) | (with_reducible refine Kd.C_drewN ?_ _) | (with_reducible refine Kd.C_drew ?_)))
            (case side6 => exact (Kd.R_reads' HO548.out).2.1)
            (case side7 => repeat (first | exact (Kd.R_reads' HO551.out).2.2 | (with_reducible refine Kd.C_alloc ?_ _) | (with_reducible refine Kd.C_drewN ?_ _) | (with_reducible refine Kd.C_drew ?_)))
            (case side8 => exact (Kd.R_reads' HO551.out).2.1)
            rintro e w46 ⟨rfl, hb⟩
            refine ⟨_, rfl, ?_⟩
            have n0_ := Aside0.mk (Kd.R_below (by (with_reducible repeat (first | apply Kd.R_alloc | apply Kd.R_drewN | apply Kd.R_drew)); exact HO_8.out) hb)
            have n1_ := Aside0.mk (Kd.R_below (by (with_reducible repeat (first | apply Kd.R_alloc | apply Kd.R_drewN | apply Kd.R_drew)); exact HO_11.out) hb)
            have n2_ := Aside0.mk (Kd.R_below (by (with_reducible repeat (first | apply Kd.R_alloc | apply Kd.R_drewN | apply Kd.R_drew)); exact HO_541000.out) hb)
            have n3_ := Aside0.mk (Kd.R_below (by (with_reducible repeat (first | apply Kd.R_alloc | apply Kd.R_drewN | apply Kd.R_drew)); exact HO_541001.out) hb)
            have n4_ := Aside0.mk (Kd.R_below (by (with_reducible repeat (first | apply Kd.R_alloc | apply Kd.R_drewN | apply Kd.R_drew)); exact HO548.out) hb)
            have n5_ := Aside0.mk (Kd.R_below (by (with_reducible repeat (first | apply Kd.R_alloc | apply Kd.R_drewN | apply Kd.R_drew)); exact HO551.out) hb)
            have n6_ := Aside0.mk (blk_below (g := gb522) (o := .cells #[.slice A0_0 l0_0.length c0_0, .slice A0_1 l0_1.length c0_1] 31 (0, 0)) (by (with_reducible repeat (first | refine blk_drewN ?_ _ | refine blk_drew ?_ | refine blk_alloc ?_ _)); exact BK522.out) hb)
            have n7_ := Aside0.mk (blk_below (g := gb540) (o := .cells #[.slice Ao25 t534.length co25, .slice Ao28 t537.length co28] 34 (0, 0)) (by (with_reducible repeat (first | refine blk_drewN ?_ _ | refine blk_drew ?_ | refine blk_alloc ?_ _)); exact BK540.out) hb)
            have n8_ := Aside0.mk (below_step (by repeat (first | (with_reducible first | exact HB.out | apply below_alloc | apply pw_below_drewN | apply below_drew1 | refine below_set ?_ GE522.out | refine below_set ?_ GE540.out) | exact HB.out)) hb)
            clear HO_8
            clear HO_11
            clear HO_541000
            clear HO_541001
            clear HO548
            clear HO551
            clear BK522
            clear BK540
            clear HB
            have HO_8 := n0_
            have HO_11 := n1_
            have HO_541000 := n2_
            have HO_541001 := n3_
            have HO548 := n4_
            have HO551 := n5_
            have BK522 := n6_
            have BK540 := n7_
            have HB := n8_
            clear n0_ n1_ n2_ n3_ n4_ n5_ n6_ n7_ n8_
            (try clear hb)
            (try clear hb2)
            (try clear hk)
            (try clear hi)
            refine hK.out _ _ ⟨(blk_cell BK540.out 0).trans rfl, (blk_cell BK540.out 1).trans rfl, (blk_cell BK522.out 0).trans rfl, (blk_cell BK522.out 1).trans rfl⟩ (fun hHeld => ?_)
            clear hK K
            refine norm_ (a' := ?_) ?_ ?_
            rotate_left
            · show Act.put _ (some 52) _ = _
              simp only [Act.put, List.setIfInBounds_toArray, List.set_cons_zero, List.set_cons_succ, i64_w, i32_w]
              rfl
            refine pure_ (i := 4) (N := some 53) (v := ?_) (a' := ?_) #[true, true, true, true, true] rfl rfl (by kernel_rfl) (fun _ _ _ h => h) (Or.inl ⟨by rfl, ?_⟩) ?_ ?_
            rotate_left
            · intro w'
              go_simp
              with_reducible rfl
            rotate_left
            · simp only [Act.put, List.setIfInBounds_toArray, List.set_cons_zero, List.set_cons_succ, i64_w, i32_w]
              rfl
            refine done_ (by kernel_rfl) ?_
            have hnb47 := NB540_522.out
            have hnc47 := NB522_540.out
            have hcz48_0 : w46.cell? ⟨gb540, 0, none⟩ = some (.slice Ao25 t534.length co25) := (blk_cell BK540.out 0).trans rfl
            have hcz48_1 : w46.cell? ⟨gb540, 1, none⟩ = some (.slice Ao28 t537.length co28) := (blk_cell BK540.out 1).trans rfl
            have hfz48_0 := blk_frozen BK540.out 0
            have hfz48_1 := blk_frozen BK540.out 1
            go_upto_region 14 with (first | ((with_reducible refine gate_callee (f := 32) rfl ?_); refine goesL_ (some 56) rfl rfl Try.func32 (by kernel_rfl) rfl #[.agg #[.slice Ao25 t534.length co25, .slice Ao28 t537.length co28], .int .i64 1] rfl (by (try simp only [List.map_toArray, List.map_cons, List.map_nil]); first | done | rfl | (simp only [List.length_drop, List.length_take]; rfl)) ?_; (with_reducible refine (laws_markSurface.calls kj12 (fun k_ => some k_ = (.slice Ao25 t534.length co25 : Value).ownBlock) (.slice Ao25 t534.length co25) t534 (fun k_ => some k_ = (.slice Ao28 t537.length co28 : Value).ownBlock) (.slice Ao28 t537.length co28) t537 1 t553 t554 t555 w _ ?side1 ?side2 ?side3 ?side4 ?side5 A40.out).mono ?_); (case side1 => repeat (first | (with_reducible first | exact HB.out | apply below_alloc | apply pw_below_drewN | apply below_drew1 | refine below_set ?_ GE522.out | refine below_set ?_ GE540.out) | exact HB.out)); (case side2 => exact Kd.R_tight rfl HO_541000.out); (case side3 => exact fun k_ e_ => (HO_541000.out.1 k_ e_.symm).1.1.2.2); (case side4 => exact Kd.R_tight rfl HO_541001.out); (case side5 => exact fun k_ e_ => (HO_541001.out.1 k_ e_.symm).1.1.2.2); rintro e w49 ⟨rfl, hy0, hy1, hb, hkp⟩; refine ⟨_, rfl, ?_⟩; have n0_ := Aside0.mk (Kd.R_mono (ok' := fun k_ => some k_ ≠ (v542 : Value).ownBlock ∧ some k_ ≠ (.slice Ao25 t534.length co25 : Value).ownBlock ∧ some k_ ≠ (.slice Ao28 t537.length co28 : Value).ownBlock ∧ some k_ ≠ (.slice Ao44 t546.length co44 : Value).ownBlock ∧ some k_ ≠ (.slice Ao45 t549.length co45 : Value).ownBlock) (Kd.R_keptB (HO_8.out) hkp (fun k_ hk_ hs_ => Or.elim hs_ (fun e_ => (hk_.1.1.2.1) e_) (fun e_ => (hk_.1.1.2.2) e_))) (fun k_ hk_ => ⟨hk_.1.1.1.1, hk_.1.1.1.2.1, hk_.1.1.1.2.2, hk_.1.1.2, hk_.1.2⟩)); have n1_ := Aside0.mk (Kd.R_mono (ok' := fun k_ => some k_ ≠ (v531 : Value).ownBlock ∧ some k_ ≠ (.slice Ao25 t534.length co25 : Value).ownBlock ∧ some k_ ≠ (.slice Ao28 t537.length co28 : Value).ownBlock ∧ some k_ ≠ (.slice Ao44 t546.length co44 : Value).ownBlock ∧ some k_ ≠ (.slice Ao45 t549.length co45 : Value).ownBlock) (Kd.R_keptB (HO_11.out) hkp (fun k_ hk_ hs_ => Or.elim hs_ (fun e_ => (hk_.1.1.2.1) e_) (fun e_ => (hk_.1.1.2.2) e_))) (fun k_ hk_ => ⟨hk_.1.1.1.1, hk_.1.1.1.2.1, hk_.1.1.1.2.2, hk_.1.1.2, hk_.1.2⟩)); have n2_ := Aside0.mk (Kd.R_reok rfl hy0 (fun k_ e_ => HO_541000.out.1 k_ e_)); have n3_ := Aside0.mk (Kd.R_reok rfl hy1 (fun k_ e_ => HO_541001.out.1 k_ e_)); have n4_ := Aside0.mk (blk_kept (by (with_reducible repeat (first | refine blk_drewN ?_ _ | refine blk_drew ?_ | refine blk_alloc ?_ _)); exact BK522.out) hkp (fun hs_ => Or.elim hs_ (fun e_ => (fun e_ => (Kd.R_ne HO_541000.out BK522.out (by decide)) e_) e_) (fun e_ => (fun e_ => (Kd.R_ne HO_541001.out BK522.out (by decide)) e_) e_))); have n5_ := Aside0.mk (blk_kept (by (with_reducible repeat (first | refine blk_drewN ?_ _ | refine blk_drew ?_ | refine blk_alloc ?_ _)); exact BK540.out) hkp (fun hs_ => Or.elim hs_ (fun e_ => (fun e_ => (Kd.R_ne HO_541000.out BK540.out (by decide)) e_) e_) (fun e_ => (fun e_ => (Kd.R_ne HO_541001.out BK540.out (by decide)) e_) e_))); have n6_ := Aside0.mk (Kd.R_mono (ok' := fun k_ => some k_ ≠ (v531 : Value).ownBlock ∧ some k_ ≠ (v542 : Value).ownBlock ∧ some k_ ≠ (.slice Ao25 t534.length co25 : Value).ownBlock ∧ some k_ ≠ (.slice Ao28 t537.length co28 : Value).ownBlock ∧ some k_ ≠ (.slice Ao45 t549.length co45 : Value).ownBlock) (Kd.R_keptB (HO548.out) hkp (fun k_ hk_ hs_ => Or.elim hs_ (fun e_ => (hk_.1.2) e_) (fun e_ => (hk_.2) e_))) (fun k_ hk_ => ⟨hk_.1.1.1.1.2, hk_.1.1.1.2, hk_.1.1.2, hk_.1.2, hk_.1.1.1.1.1⟩)); have n7_ := Aside0.mk (Kd.R_mono (ok' := fun k_ => some k_ ≠ (v531 : Value).ownBlock ∧ some k_ ≠ (v542 : Value).ownBlock ∧ some k_ ≠ (.slice Ao25 t534.length co25 : Value).ownBlock ∧ some k_ ≠ (.slice Ao28 t537.length co28 : Value).ownBlock ∧ some k_ ≠ (.slice Ao44 t546.length co44 : Value).ownBlock) (Kd.R_keptB (HO551.out) hkp (fun k_ hk_ hs_ => Or.elim hs_ (fun e_ => (hk_.1.2) e_) (fun e_ => (hk_.2) e_))) (fun k_ hk_ => ⟨hk_.1.1.1.1.2, hk_.1.1.1.2, hk_.1.1.2, hk_.1.2, hk_.1.1.1.1.1⟩)); have n8_ := Aside0.mk (hb); clear HO_8; clear HO_11; clear HO_541000; clear HO_541001; clear BK522; clear BK540; clear HO548; clear HO551; clear HB; have HO_8 := n0_; have HO_11 := n1_; have HO_541000 := n2_; have HO_541001 := n3_; have BK522 := n4_; have BK540 := n5_; have HO548 := n6_; have HO551 := n7_; have HB := n8_; clear n0_ n1_ n2_ n3_ n4_ n5_ n6_ n7_ n8_; (try clear hb); (try clear hkp); (try clear hy0); (try clear hy1)))
            (try simp only [Act.put, List.setIfInBounds_toArray, List.set_cons_zero, List.set_cons_succ])
            go_cut [69] (fun v69 wc => ∃ (kq : Nat) (x69_40 : Bool), v69 = .bool x69_40 ∧ Aside0 (laws_FnExactPathPerm.j1 kq a1 a2 t530 t533 t541 x69_40 l0_0 l0_1 = some r) ∧ Aside0 (kq ≤ kj12) ∧ Aside0 (Kd.R (Kd.int .i64) 3 wc w.heap.size (fun k_ => some k_ ≠ (v542 : Value).ownBlock ∧ some k_ ≠ ((.slice Ao25 t534.length co25) : Value).ownBlock ∧ some k_ ≠ ((.slice Ao28 t537.length co28) : Value).ownBlock) v531 t530) ∧ Aside0 (Kd.R (Kd.int .i64) 3 wc w.heap.size (fun k_ => some k_ ≠ (v531 : Value).ownBlock ∧ some k_ ≠ ((.slice Ao25 t534.length co25) : Value).ownBlock ∧ some k_ ≠ ((.slice Ao28 t537.length co28) : Value).ownBlock) v542 t541) ∧ Aside0 (Kd.R (Kd.int .i64) 3 wc w.heap.size (fun k_ => some k_ ≠ (v531 : Value).ownBlock ∧ some k_ ≠ (v542 : Value).ownBlock ∧ some k_ ≠ ((.slice Ao28 t537.length co28) : Value).ownBlock) (.slice Ao25 t534.length co25) t554) ∧ Aside0 (Kd.R (Kd.int .i64) 3 wc w.heap.size (fun k_ => some k_ ≠ (v531 : Value).ownBlock ∧ some k_ ≠ (v542 : Value).ownBlock ∧ some k_ ≠ ((.slice Ao25 t534.length co25) : Value).ownBlock) (.slice Ao28 t537.length co28) t555) ∧ Aside0 (wc.heap[gb522]? = some (.cells #[(.slice A0_0 l0_0.length c0_0), (.slice A0_1 l0_1.length c0_1)] 31 (0, 0))) ∧ Aside0 (wc.heap[gb540]? = some (.cells #[(.slice Ao25 t534.length co25), (.slice Ao28 t537.length co28)] 34 (0, 0))) ∧ Aside0 (Below w.heap.size w wc))
            case first =>
              have H := HC41.out
              clear HC41
              by_cases c50 : t553 < 0
              · rw [if_pos c50] at H
                have c50b0 : decide (t553 < 0) = true := decide_eq_true c50
                clear c50
                (first | rw [c50b0] | (simp only [i64_w, i32_w]; rw [c50b0]) | skip)
                have H' := Aside0.mk H
                clear H
                go_wp2
                go_meet
                case rel => exact ⟨_, (true), (by first | rfl | (simp; done) | (simp [*]; done)), H', ⟨by have := HJ12.out; first | omega | exact Nat.le_refl _⟩, ⟨by (with_reducible repeat (first | apply Kd.R_alloc | apply Kd.R_drewN | apply Kd.R_drew)); exact Kd.R_mono HO_8.out (fun _ hk => ⟨hk.1, ⟨hk.2.1, hk.2.2.1⟩⟩)⟩, ⟨by (with_reducible repeat (first | apply Kd.R_alloc | apply Kd.R_drewN | apply Kd.R_drew)); exact Kd.R_mono HO_11.out (fun _ hk => ⟨hk.1, ⟨hk.2.1, hk.2.2.1⟩⟩)⟩, ⟨by (with_reducible repeat (first | apply Kd.R_alloc | apply Kd.R_drewN | apply Kd.R_drew)); exact Kd.R_mono HO_541000.out (fun _ hk => ⟨hk.1.1.1, ⟨hk.1.1.2.1, hk.1.1.2.2⟩⟩)⟩, ⟨by (with_reducible repeat (first | apply Kd.R_alloc | apply Kd.R_drewN | apply Kd.R_drew)); exact Kd.R_mono HO_541001.out (fun _ hk => ⟨hk.1.1.1, ⟨hk.1.1.2.1, hk.1.1.2.2⟩⟩)⟩, ⟨by (with_reducible repeat (first | refine blk_drewN ?_ _ | refine blk_drew ?_ | refine blk_alloc ?_ _)); exact BK522.out⟩, ⟨by (with_reducible repeat (first | refine blk_drewN ?_ _ | refine blk_drew ?_ | refine blk_alloc ?_ _)); exact BK540.out⟩, ⟨by repeat (first | (with_reducible first | exact HB.out | apply below_alloc | apply pw_below_drewN | apply below_drew1 | refine below_set ?_ GE522.out | refine below_set ?_ GE540.out) | exact HB.out)⟩⟩
              · rw [if_neg c50] at H
                have c50b0 : decide (t553 < 0) = false := decide_eq_false c50
                clear c50
                (first | rw [c50b0] | (simp only [i64_w, i32_w]; rw [c50b0]) | skip)
                replace H := Option.bind_eq_some_iff.mp H
                obtain ⟨t556, A510, H⟩ := H
                replace H : (if t556 = true then (laws_FnExactPathPerm.j1 kj12 a1 a2 t530 t533 t541 (t544 != t533) l0_0 l0_1) else (laws_FnExactPathPerm.j1 kj12 a1 a2 t530 t533 t541 true l0_0 l0_1)) = some r := H
                have A51 := Aside0.mk A510
                clear A510
                by_cases c52 : t556 = true
                · subst c52
                  have H1 : (laws_FnExactPathPerm.j1 kj12 a1 a2 t530 t533 t541 (t544 != t533) l0_0 l0_1) = some r := by rw [if_pos rfl] at H; exact H
                  clear H
                  have H := H1
                  clear H1
                  have H' := Aside0.mk H
                  clear H
                  obtain ⟨Ao53, co53, eo53⟩ := Kd.R_slice HO_11.out
                  subst eo53
                  obtain ⟨Ao54, co54, eo54⟩ := Kd.R_slice HO_8.out
                  subst eo54
                  go_wp2_with (first | (go_at_call 26; (with_reducible refine (laws_eqIntS.calls kj12 _ _ t541 _ _ t530 true _ ?side1 ?side2 ?side3 ?side4 A51.out).mono ?_); (case side1 => repeat (first | exact (Kd.R_reads' HO_11.out).2.2 | (with_reducible refine Kd.C_alloc ?_ _) | (with_reducible refine Kd.C_drewN ?_ _) | (with_reducible refine Kd.C_drew ?_))); (case side2 => exact (Kd.R_reads' HO_11.out).2.1); (case side3 => repeat (first | exact (Kd.R_reads' HO_8.out).2.2 | (with_reducible refine Kd.C_alloc ?_ _) | (with_reducible refine Kd.C_drewN ?_ _) | (with_reducible refine Kd.C_drew ?_))); (case side4 => exact (Kd.R_reads' HO_8.out).2.1); rintro e w' ⟨rfl, ⟨nd, rfl⟩⟩))
                  go_meet
                  case rel => exact ⟨_, ((t544 != t533)), (by first | rfl | (simp; done) | (simp [*]; done)), H', ⟨by have := HJ12.out; first | omega | exact Nat.le_refl _⟩, ⟨by (with_reducible repeat (first | apply Kd.R_alloc | apply Kd.R_drewN | apply Kd.R_drew)); exact Kd.R_mono HO_8.out (fun _ hk => ⟨hk.1, ⟨hk.2.1, hk.2.2.1⟩⟩)⟩, ⟨by (with_reducible repeat (first | apply Kd.R_alloc | apply Kd.R_drewN | apply Kd.R_drew)); exact Kd.R_mono HO_11.out (fun _ hk => ⟨hk.1, ⟨hk.2.1, hk.2.2.1⟩⟩)⟩, ⟨by (with_reducible repeat (first | apply Kd.R_alloc | apply Kd.R_drewN | apply Kd.R_drew)); exact Kd.R_mono HO_541000.out (fun _ hk => ⟨hk.1.1.1, ⟨hk.1.1.2.1, hk.1.1.2.2⟩⟩)⟩, ⟨by (with_reducible repeat (first | apply Kd.R_alloc | apply Kd.R_drewN | apply Kd.R_drew)); exact Kd.R_mono HO_541001.out (fun _ hk => ⟨hk.1.1.1, ⟨hk.1.1.2.1, hk.1.1.2.2⟩⟩)⟩, ⟨by (with_reducible repeat (first | refine blk_drewN ?_ _ | refine blk_drew ?_ | refine blk_alloc ?_ _)); exact BK522.out⟩, ⟨by (with_reducible repeat (first | refine blk_drewN ?_ _ | refine blk_drew ?_ | refine blk_alloc ?_ _)); exact BK540.out⟩, ⟨by repeat (first | (with_reducible first | exact HB.out | apply below_alloc | apply pw_below_drewN | apply below_drew1 | refine below_set ?_ GE522.out | refine below_set ?_ GE540.out) | exact HB.out)⟩⟩
                · replace c52 := Bool.eq_false_iff.mpr c52
                  subst c52
                  have H1 : (laws_FnExactPathPerm.j1 kj12 a1 a2 t530 t533 t541 true l0_0 l0_1) = some r := by rw [if_neg (show ¬ (false = true) by decide)] at H; exact H
                  clear H
                  have H := H1
                  clear H1
                  have H' := Aside0.mk H
                  clear H
                  obtain ⟨Ao55, co55, eo55⟩ := Kd.R_slice HO_11.out
                  subst eo55
                  obtain ⟨Ao56, co56, eo56⟩ := Kd.R_slice HO_8.out
                  subst eo56
                  go_wp2_with (first | (go_at_call 26; (with_reducible refine (laws_eqIntS.calls kj12 _ _ t541 _ _ t530 false _ ?side1 ?side2 ?side3 ?side4 A51.out).mono ?_); (case side1 => repeat (first | exact (Kd.R_reads' HO_11.out).2.2 | (with_reducible refine Kd.C_alloc ?_ _) | (with_reducible refine Kd.C_drewN ?_ _) | (with_reducible refine Kd.C_drew ?_))); (case side2 => exact (Kd.R_reads' HO_11.out).2.1); (case side3 => repeat (first | exact (Kd.R_reads' HO_8.out).2.2 | (with_reducible refine Kd.C_alloc ?_ _) | (with_reducible refine Kd.C_drewN ?_ _) | (with_reducible refine Kd.C_drew ?_))); (case side4 => exact (Kd.R_reads' HO_8.out).2.1); rintro e w' ⟨rfl, ⟨nd, rfl⟩⟩))
                  go_meet
                  case rel => exact ⟨_, (true), (by first | rfl | (simp; done) | (simp [*]; done)), H', ⟨by have := HJ12.out; first | omega | exact Nat.le_refl _⟩, ⟨by (with_reducible repeat (first | apply Kd.R_alloc | apply Kd.R_drewN | apply Kd.R_drew)); exact Kd.R_mono HO_8.out (fun _ hk => ⟨hk.1, ⟨hk.2.1, hk.2.2.1⟩⟩)⟩, ⟨by (with_reducible repeat (first | apply Kd.R_alloc | apply Kd.R_drewN | apply Kd.R_drew)); exact Kd.R_mono HO_11.out (fun _ hk => ⟨hk.1, ⟨hk.2.1, hk.2.2.1⟩⟩)⟩, ⟨by (with_reducible repeat (first | apply Kd.R_alloc | apply Kd.R_drewN | apply Kd.R_drew)); exact Kd.R_mono HO_541000.out (fun _ hk => ⟨hk.1.1.1, ⟨hk.1.1.2.1, hk.1.1.2.2⟩⟩)⟩, ⟨by (with_reducible repeat (first | apply Kd.R_alloc | apply Kd.R_drewN | apply Kd.R_drew)); exact Kd.R_mono HO_541001.out (fun _ hk => ⟨hk.1.1.1, ⟨hk.1.1.2.1, hk.1.1.2.2⟩⟩)⟩, ⟨by (with_reducible repeat (first | refine blk_drewN ?_ _ | refine blk_drew ?_ | refine blk_alloc ?_ _)); exact BK522.out⟩, ⟨by (with_reducible repeat (first | refine blk_drewN ?_ _ | refine blk_drew ?_ | refine blk_alloc ?_ _)); exact BK540.out⟩, ⟨by repeat (first | (with_reducible first | exact HB.out | apply below_alloc | apply pw_below_drewN | apply below_drew1 | refine below_set ?_ GE522.out | refine below_set ?_ GE540.out) | exact HB.out)⟩⟩
            case rest =>
              clear HC41
              try clear c2
              try clear p2
              try clear c3
              try clear c4
              try clear c5
              try clear c5b0
              try clear c9
              try clear c20
              try clear c22
              try clear c25
              try clear c26
              try clear c31
              try clear c32
              try clear c36
              try clear c39
              try clear c40
              try clear c41
              try clear c47
              try clear c50
              try clear c50b0
              try clear c52
              try clear hcz15_0
              try clear hcz15_1
              try clear hcz17_0
              try clear hcz17_1
              try clear hcz22_0
              try clear hcz22_1
              try clear hcz27_0
              try clear hcz27_1
              try clear hcz48_0
              try clear hcz48_1
              try clear hcz7_0
              try clear hcz7_1
              try clear hfz15_0
              try clear hfz15_1
              try clear hfz17_0
              try clear hfz17_1
              try clear hfz22_0
              try clear hfz22_1
              try clear hfz27_0
              try clear hfz27_1
              try clear hfz48_0
              try clear hfz48_1
              try clear hfz7_0
              try clear hfz7_1
              try clear p2
              obtain ⟨kq, x69_40, rfl, HA, HJ40, HO_8, HO_11, HO_541000, HO_541001, BK522, BK540, HB⟩ := hcut
              have hl541000_40 := (Kd.R_reads' HO_541000.out).1
              rw [hl541000_40] at HO_541000
              (try simp only [hl541000_40])
              (try simp only [hl541000_40] at BK522)
              (try simp only [hl541000_40] at BK540)
              (try simp only [hl541000_40] at HO_8)
              (try simp only [hl541000_40] at HO_11)
              (try simp only [hl541000_40] at HO_541001)
              have hl541001_40 := (Kd.R_reads' HO_541001.out).1
              rw [hl541001_40] at HO_541001
              (try simp only [hl541001_40])
              (try simp only [hl541001_40] at BK522)
              (try simp only [hl541001_40] at BK540)
              (try simp only [hl541001_40] at HO_8)
              (try simp only [hl541001_40] at HO_11)
              (try simp only [hl541001_40] at HO_541000)
              cases kq with
              | zero => exact absurd HA.out (by simp [laws_FnExactPathPerm.j1])
              | succ kj40 =>
                have H := HA.out
                clear HA
                simp only [laws_FnExactPathPerm.j1] at H
                by_cases c57 : x69_40 = true
                · subst c57
                  have H1 : (some false) = some r := by rw [if_pos rfl] at H; exact H
                  clear H
                  have H := H1
                  clear H1
                  exact absurd (Option.some.inj H) (by rw [hr1_.out]; decide)
                · replace c57 := Bool.eq_false_iff.mpr c57
                  subst c57
                  have H1 : ((laws_markIntS.f kj40 t541 1).bind fun bt557 => ((laws_heldIntS.f kj40 bt557.2 1).bind fun t559 => (if t559 < 0 then (some false) else (if t559 = bt557.1 then ((laws_toSurface.f kj40 l0_0 l0_1).bind fun bt560 => ((impl_PathPerm.f kj40 bt560.1 bt560.2 a1 a2).bind fun bt566 => ((laws_eqIntS.f kj40 bt566.1 t530).bind fun t570 => (if t570 = true then (laws_FnExactPathPerm.j2 kj40 bt557.2 bt557.1 (bt566.2 != t533)) else (laws_FnExactPathPerm.j2 kj40 bt557.2 bt557.1 true))))) else (some false))))) = some r := by rw [if_neg (show ¬ (false = true) by decide)] at H; exact H
                  clear H
                  have H := H1
                  clear H1
                  replace H := Option.bind_eq_some_iff.mp H
                  obtain ⟨⟨t557, t558⟩, A580, H⟩ := H
                  replace H : ((laws_heldIntS.f kj40 t558 1).bind fun t559 => (if t559 < 0 then (some false) else (if t559 = t557 then ((laws_toSurface.f kj40 l0_0 l0_1).bind fun bt560 => ((impl_PathPerm.f kj40 bt560.1 bt560.2 a1 a2).bind fun bt566 => ((laws_eqIntS.f kj40 bt566.1 t530).bind fun t570 => (if t570 = true then (laws_FnExactPathPerm.j2 kj40 t558 t557 (bt566.2 != t533)) else (laws_FnExactPathPerm.j2 kj40 t558 t557 true))))) else (some false)))) = some r := H
                  have A58 := Aside0.mk A580
                  clear A580
                  replace H := Option.bind_eq_some_iff.mp H
                  obtain ⟨t559, A590, H⟩ := H
                  replace H : (if t559 < 0 then (some false) else (if t559 = t557 then ((laws_toSurface.f kj40 l0_0 l0_1).bind fun bt560 => ((impl_PathPerm.f kj40 bt560.1 bt560.2 a1 a2).bind fun bt566 => ((laws_eqIntS.f kj40 bt566.1 t530).bind fun t570 => (if t570 = true then (laws_FnExactPathPerm.j2 kj40 t558 t557 (bt566.2 != t533)) else (laws_FnExactPathPerm.j2 kj40 t558 t557 true))))) else (some false))) = some r := H
                  have A59 := Aside0.mk A590
                  clear A590
                  by_cases c60 : t559 < 0
                  · rw [if_pos c60] at H
                    have c60b0 : decide (t559 < 0) = true := decide_eq_true c60
                    clear c60
                    exact absurd (Option.some.inj H) (by rw [hr1_.out]; decide)
                  · rw [if_neg c60] at H
                    have c60b0 : decide (t559 < 0) = false := decide_eq_false c60
                    clear c60
                    by_cases c61 : t559 = t557
                    · rw [if_pos c61] at H
                      have c61b0 : (t559 == t557) = true := beq_iff_eq.mpr c61
                      have c61b1 : (t559 != t557) = false := bne_eq_false_iff_eq.mpr c61
                      clear c61
                      replace H := Option.bind_eq_some_iff.mp H
                      obtain ⟨⟨t560, t563⟩, A620, H⟩ := H
                      replace H : ((impl_PathPerm.f kj40 t560 t563 a1 a2).bind fun bt566 => ((laws_eqIntS.f kj40 bt566.1 t530).bind fun t570 => (if t570 = true then (laws_FnExactPathPerm.j2 kj40 t558 t557 (bt566.2 != t533)) else (laws_FnExactPathPerm.j2 kj40 t558 t557 true)))) = some r := H
                      have A62 := Aside0.mk A620
                      clear A620
                      replace H := Option.bind_eq_some_iff.mp H
                      obtain ⟨⟨t566, t569⟩, A630, H⟩ := H
                      replace H : ((laws_eqIntS.f kj40 t566 t530).bind fun t570 => (if t570 = true then (laws_FnExactPathPerm.j2 kj40 t558 t557 (t569 != t533)) else (laws_FnExactPathPerm.j2 kj40 t558 t557 true))) = some r := H
                      have A63 := Aside0.mk A630
                      clear A630
                      have HC64 := Aside0.mk H
                      clear H
                      obtain ⟨Ao65, co65, eo65⟩ := Kd.R_slice HO_11.out
                      subst eo65
                      go_upto_region 25 with (first | ((with_reducible refine gate_callee (f := 42) rfl ?_); refine goesL_ (some 72) rfl rfl Try.func42 (by kernel_rfl) rfl #[.slice Ao65 t541.length co65, .int .i64 1] rfl (by (try simp only [List.map_toArray, List.map_cons, List.map_nil]); first | done | rfl | (simp only [List.length_drop, List.length_take]; rfl)) ?_; (with_reducible refine (laws_markIntS.calls kj40 (fun k_ => some k_ = (.slice Ao65 t541.length co65 : Value).ownBlock) (.slice Ao65 t541.length co65) t541 1 t557 t558 w _ ?side1 ?side2 A58.out).mono ?_); (case side1 => repeat (first | (with_reducible first | exact HB.out | apply below_alloc | apply pw_below_drewN | apply below_drew1 | refine below_set ?_ GE522.out | refine below_set ?_ GE540.out) | exact HB.out)); (case side2 => exact Kd.R_tight rfl HO_11.out); rintro e w66 ⟨rfl, hy0, hb, hkp⟩; refine ⟨_, rfl, ?_⟩; have n0_ := Aside0.mk (Kd.R_mono (ok' := fun k_ => some k_ ≠ (.slice Ao65 t541.length co65 : Value).ownBlock ∧ some k_ ≠ (.slice Ao25 t554.length co25 : Value).ownBlock ∧ some k_ ≠ (.slice Ao28 t555.length co28 : Value).ownBlock) (Kd.R_keptB (HO_8.out) hkp (fun k_ hk_ hs_ => (hk_.1) hs_)) (fun k_ hk_ => ⟨hk_.1.1, hk_.1.2.1, hk_.1.2.2⟩)); have n1_ := Aside0.mk (Kd.R_reok rfl hy0 (fun k_ e_ => HO_11.out.1 k_ e_)); have n2_ := Aside0.mk (Kd.R_mono (ok' := fun k_ => some k_ ≠ (v531 : Value).ownBlock ∧ some k_ ≠ (.slice Ao65 t541.length co65 : Value).ownBlock ∧ some k_ ≠ (.slice Ao28 t555.length co28 : Value).ownBlock) (Kd.R_keptB (HO_541000.out) hkp (fun k_ hk_ hs_ => (hk_.2.1) hs_)) (fun k_ hk_ => ⟨hk_.1.1, hk_.1.2.1, hk_.1.2.2⟩)); have n3_ := Aside0.mk (Kd.R_mono (ok' := fun k_ => some k_ ≠ (v531 : Value).ownBlock ∧ some k_ ≠ (.slice Ao65 t541.length co65 : Value).ownBlock ∧ some k_ ≠ (.slice Ao25 t554.length co25 : Value).ownBlock) (Kd.R_keptB (HO_541001.out) hkp (fun k_ hk_ hs_ => (hk_.2.1) hs_)) (fun k_ hk_ => ⟨hk_.1.1, hk_.1.2.1, hk_.1.2.2⟩)); have n4_ := Aside0.mk (blk_kept (by (with_reducible repeat (first | refine blk_drewN ?_ _ | refine blk_drew ?_ | refine blk_alloc ?_ _)); exact BK522.out) hkp (fun hs_ => (fun e_ => (Kd.R_ne HO_11.out BK522.out (by decide)) e_) hs_)); have n5_ := Aside0.mk (blk_kept (by (with_reducible repeat (first | refine blk_drewN ?_ _ | refine blk_drew ?_ | refine blk_alloc ?_ _)); exact BK540.out) hkp (fun hs_ => (fun e_ => (Kd.R_ne HO_11.out BK540.out (by decide)) e_) hs_)); have n6_ := Aside0.mk (hb); clear HO_8; clear HO_11; clear HO_541000; clear HO_541001; clear BK522; clear BK540; clear HB; have HO_8 := n0_; have HO_11 := n1_; have HO_541000 := n2_; have HO_541001 := n3_; have BK522 := n4_; have BK540 := n5_; have HB := n6_; clear n0_ n1_ n2_ n3_ n4_ n5_ n6_; (try clear hb); (try clear hkp); (try clear hy0)) | ((with_reducible refine gate_callee (f := 43) rfl ?_); refine goesL_ (some 75) rfl rfl Try.func43 (by kernel_rfl) rfl #[.slice Ao65 t558.length co65, .int .i64 1] rfl (by (try simp only [List.map_toArray, List.map_cons, List.map_nil]); first | done | (rw [show t558.length = t541.length from (Kd.R_reads' HO_11.out).1.symm] <;> rfl) | rfl | (simp only [List.length_drop, List.length_take]; rfl)) ?_; (with_reducible refine (laws_heldIntS.calls kj40 _ _ t558 1 t559 _ ?side1 ?side2 A59.out).mono ?_); (case side1 => repeat (first | exact (Kd.R_reads' HO_11.out).2.2 | (with_reducible refine Kd.C_alloc ?_ _) | (with_reducible refine Kd.C_drewN ?_ _) | (with_reducible refine Kd.C_drew ?_))); (case side2 => rw [show t558.length = t541.length from (Kd.R_reads' HO_11.out).1.symm]; exact (Kd.R_reads' HO_11.out).2.1); rintro e w' ⟨rfl, ⟨nd, rfl⟩⟩; refine ⟨_, rfl, ?_⟩; have hnb67 := NB522_540.out; have hnc67 := NB540_522.out; have hcz68_0 : w66.cell? ⟨gb522, 0, none⟩ = some (.slice A0_0 l0_0.length c0_0) := (blk_cell BK522.out 0).trans rfl; have hcz68_1 : w66.cell? ⟨gb522, 1, none⟩ = some (.slice A0_1 l0_1.length c0_1) := (blk_cell BK522.out 1).trans rfl; have hfz68_0 := blk_frozen BK522.out 0; have hfz68_1 := blk_frozen BK522.out 1) | ((with_reducible refine gate_callee (f := 22) rfl ?_); refine goesL_ (some 83) rfl rfl Try.func22 (by kernel_rfl) rfl #[.agg #[.slice A0_0 l0_0.length c0_0, .slice A0_1 l0_1.length c0_1]] rfl (by (try simp only [List.map_toArray, List.map_cons, List.map_nil]); first | done | rfl | (simp only [List.length_drop, List.length_take]; rfl)) ?_; (with_reducible refine (laws_toSurface.calls kj40 _ _ l0_0 _ _ l0_1 t560 t563 _ ?side1 ?side2 ?side3 ?side4 A62.out).mono ?_); (case side1 => repeat (first | exact (Kd.C_below HR0_0.out (by repeat (first | (with_reducible first | exact HB.out | apply below_alloc | apply pw_below_drewN | apply below_drew1 | refine below_set ?_ GE522.out | refine below_set ?_ GE540.out) | exact HB.out))) | (with_reducible refine Kd.C_alloc ?_ _) | (with_reducible refine Kd.C_drewN ?_ _) | (with_reducible refine Kd.C_drew ?_))); (case side2 => exact HC0_0.out); (case side3 => repeat (first | exact (Kd.C_below HR0_1.out (by repeat (first | (with_reducible first | exact HB.out | apply below_alloc | apply pw_below_drewN | apply below_drew1 | refine below_set ?_ GE522.out | refine below_set ?_ GE540.out) | exact HB.out))) | (with_reducible refine Kd.C_alloc ?_ _) | (with_reducible refine Kd.C_drewN ?_ _) | (with_reducible refine Kd.C_drew ?_))); (case side4 => exact HC0_1.out); rintro e w69 ⟨v561, v564, rfl, ho0, ho1, hb⟩; refine ⟨_, rfl, ?_⟩; have n0_ := Aside0.mk (Kd.R_mono (Kd.R_told (Kd.R_told (Kd.R_old (by (with_reducible repeat (first | apply Kd.R_alloc | apply Kd.R_drewN | apply Kd.R_drew)); exact HO_8.out) hb) (Kd.R_base ho0)) (Kd.R_base ho1)) (fun _ h_ => h_.1)); have n1_ := Aside0.mk (Kd.R_mono (Kd.R_told (Kd.R_told (Kd.R_old (by (with_reducible repeat (first | apply Kd.R_alloc | apply Kd.R_drewN | apply Kd.R_drew)); exact HO_11.out) hb) (Kd.R_base ho0)) (Kd.R_base ho1)) (fun _ h_ => h_.1)); have n2_ := Aside0.mk (Kd.R_mono (Kd.R_told (Kd.R_told (Kd.R_old (by (with_reducible repeat (first | apply Kd.R_alloc | apply Kd.R_drewN | apply Kd.R_drew)); exact HO_541000.out) hb) (Kd.R_base ho0)) (Kd.R_base ho1)) (fun _ h_ => h_.1)); have n3_ := Aside0.mk (Kd.R_mono (Kd.R_told (Kd.R_told (Kd.R_old (by (with_reducible repeat (first | apply Kd.R_alloc | apply Kd.R_drewN | apply Kd.R_drew)); exact HO_541001.out) hb) (Kd.R_base ho0)) (Kd.R_base ho1)) (fun _ h_ => h_.1)); have n4_ := Aside0.mk (Kd.R_lower (Kd.R_new' (Kd.R_new' (Kd.R_new' (Kd.R_new' ho0 (Kd.R_lt (by (with_reducible repeat (first | apply Kd.R_alloc | apply Kd.R_drewN | apply Kd.R_drew)); exact HO_8.out))) (Kd.R_lt (by (with_reducible repeat (first | apply Kd.R_alloc | apply Kd.R_drewN | apply Kd.R_drew)); exact HO_11.out))) (Kd.R_lt (by (with_reducible repeat (first | apply Kd.R_alloc | apply Kd.R_drewN | apply Kd.R_drew)); exact HO_541000.out))) (Kd.R_lt (by (with_reducible repeat (first | apply Kd.R_alloc | apply Kd.R_drewN | apply Kd.R_drew)); exact HO_541001.out))) (below_size (by repeat (first | (with_reducible first | exact HB.out | apply below_alloc | apply pw_below_drewN | apply below_drew1 | refine below_set ?_ GE522.out | refine below_set ?_ GE540.out) | exact HB.out)))); have n5_ := Aside0.mk (Kd.R_lower (Kd.R_new' (Kd.R_new' (Kd.R_new' (Kd.R_new' ho1 (Kd.R_lt (by (with_reducible repeat (first | apply Kd.R_alloc | apply Kd.R_drewN | apply Kd.R_drew)); exact HO_8.out))) (Kd.R_lt (by (with_reducible repeat (first | apply Kd.R_alloc | apply Kd.R_drewN | apply Kd.R_drew)); exact HO_11.out))) (Kd.R_lt (by (with_reducible repeat (first | apply Kd.R_alloc | apply Kd.R_drewN | apply Kd.R_drew)); exact HO_541000.out))) (Kd.R_lt (by (with_reducible repeat (first | apply Kd.R_alloc | apply Kd.R_drewN | apply Kd.R_drew)); exact HO_541001.out))) (below_size (by repeat (first | (with_reducible first | exact HB.out | apply below_alloc | apply pw_below_drewN | apply below_drew1 | refine below_set ?_ GE522.out | refine below_set ?_ GE540.out) | exact HB.out)))); have n6_ := Aside0.mk (blk_below (g := gb522) (o := .cells #[.slice A0_0 l0_0.length c0_0, .slice A0_1 l0_1.length c0_1] 31 (0, 0)) (by (with_reducible repeat (first | refine blk_drewN ?_ _ | refine blk_drew ?_ | refine blk_alloc ?_ _)); exact BK522.out) hb); have n7_ := Aside0.mk (blk_below (g := gb540) (o := .cells #[.slice Ao25 t554.length co25, .slice Ao28 t555.length co28] 34 (0, 0)) (by (with_reducible repeat (first | refine blk_drewN ?_ _ | refine blk_drew ?_ | refine blk_alloc ?_ _)); exact BK540.out) hb); have n8_ := Aside0.mk (below_step (by repeat (first | (with_reducible first | exact HB.out | apply below_alloc | apply pw_below_drewN | apply below_drew1 | refine below_set ?_ GE522.out | refine below_set ?_ GE540.out) | exact HB.out)) hb); clear HO_8; clear HO_11; clear HO_541000; clear HO_541001; clear BK522; clear BK540; clear HB; have HO_8 := n0_; have HO_11 := n1_; have HO_541000 := n2_; have HO_541001 := n3_; have HO562 := n4_; have HO565 := n5_; have BK522 := n6_; have BK540 := n7_; have HB := n8_; clear n0_ n1_ n2_ n3_ n4_ n5_ n6_ n7_ n8_; (try clear hb); (try clear hb2); (try clear hk); (try clear hi); (try clear ho0); (try clear ho1); obtain ⟨Ao70, co70, eo70⟩ := Kd.R_slice HO562.out; subst eo70; obtain ⟨Ao71, co71, eo71⟩ := Kd.R_slice HO565.out; subst eo71) | ((with_reducible refine gate_callee (f := 41) rfl ?_); refine goesL_ (some 86) rfl rfl Try.func41 (by kernel_rfl) rfl #[.agg #[.slice Ao70 t560.length co70, .slice Ao71 t563.length co71], .int .i64 a1, .int .i64 a2] rfl (by (try simp only [List.map_toArray, List.map_cons, List.map_nil]); first | done | rfl | (simp only [List.length_drop, List.length_take]; rfl)) ?_; (with_reducible refine (impl_PathPerm.calls kj40 _ _ t560 _ _ t563 a1 a2 t566 t569 _ ?side1 ?side2 ?side3 ?side4 A63.out).mono ?_); (case side1 => repeat (first | exact (Kd.R_reads' HO562.out).2.2 | (with_reducible refine Kd.C_alloc ?_ _) | (with_reducible refine Kd.C_drewN ?_ _) | (with_reducible refine Kd.C_drew ?_))); (case side2 => exact (Kd.R_reads' HO562.out).2.1); (case side3 => repeat (first | exact (Kd.R_reads' HO565.out).2.2 | (with_reducible refine Kd.C_alloc ?_ _) | (with_reducible refine Kd.C_drewN ?_ _) | (with_reducible refine Kd.C_drew ?_))); (case side4 => exact (Kd.R_reads' HO565.out).2.1); rintro e w72 ⟨v567, rfl, ho0, hb⟩; refine ⟨_, rfl, ?_⟩; have n0_ := Aside0.mk (Kd.R_elder' (by (with_reducible repeat (first | apply Kd.R_alloc | apply Kd.R_drewN | apply Kd.R_drew)); exact HO_8.out) (Kd.R_base ho0) hb); have n1_ := Aside0.mk (Kd.R_elder' (by (with_reducible repeat (first | apply Kd.R_alloc | apply Kd.R_drewN | apply Kd.R_drew)); exact HO_11.out) (Kd.R_base ho0) hb); have n2_ := Aside0.mk (Kd.R_elder' (by (with_reducible repeat (first | apply Kd.R_alloc | apply Kd.R_drewN | apply Kd.R_drew)); exact HO_541000.out) (Kd.R_base ho0) hb); have n3_ := Aside0.mk (Kd.R_elder' (by (with_reducible repeat (first | apply Kd.R_alloc | apply Kd.R_drewN | apply Kd.R_drew)); exact HO_541001.out) (Kd.R_base ho0) hb); have n4_ := Aside0.mk (Kd.R_elder' (by (with_reducible repeat (first | apply Kd.R_alloc | apply Kd.R_drewN | apply Kd.R_drew)); exact HO562.out) (Kd.R_base ho0) hb); have n5_ := Aside0.mk (Kd.R_elder' (by (with_reducible repeat (first | apply Kd.R_alloc | apply Kd.R_drewN | apply Kd.R_drew)); exact HO565.out) (Kd.R_base ho0) hb); have n6_ := Aside0.mk (Kd.R_lower (Kd.R_new' (Kd.R_new' (Kd.R_new' (Kd.R_new' (Kd.R_new' (Kd.R_new' ho0 (Kd.R_lt (by (with_reducible repeat (first | apply Kd.R_alloc | apply Kd.R_drewN | apply Kd.R_drew)); exact HO_8.out))) (Kd.R_lt (by (with_reducible repeat (first | apply Kd.R_alloc | apply Kd.R_drewN | apply Kd.R_drew)); exact HO_11.out))) (Kd.R_lt (by (with_reducible repeat (first | apply Kd.R_alloc | apply Kd.R_drewN | apply Kd.R_drew)); exact HO_541000.out))) (Kd.R_lt (by (with_reducible repeat (first | apply Kd.R_alloc | apply Kd.R_drewN | apply Kd.R_drew)); exact HO_541001.out))) (Kd.R_lt (by (with_reducible repeat (first | apply Kd.R_alloc | apply Kd.R_drewN | apply Kd.R_drew)); exact HO562.out))) (Kd.R_lt (by (with_reducible repeat (first | apply Kd.R_alloc | apply Kd.R_drewN | apply Kd.R_drew)); exact HO565.out))) (below_size (by repeat (first | (with_reducible first | exact HB.out | apply below_alloc | apply pw_below_drewN | apply below_drew1 | refine below_set ?_ GE522.out | refine below_set ?_ GE540.out) | exact HB.out)))); have n7_ := Aside0.mk (blk_below (g := gb522) (o := .cells #[.slice A0_0 l0_0.length c0_0, .slice A0_1 l0_1.length c0_1] 31 (0, 0)) (by (with_reducible repeat (first | refine blk_drewN ?_ _ | refine blk_drew ?_ | refine blk_alloc ?_ _)); exact BK522.out) hb); have n8_ := Aside0.mk (blk_below (g := gb540) (o := .cells #[.slice Ao25 t554.length co25, .slice Ao28 t555.length co28] 34 (0, 0)) (by (with_reducible repeat (first | refine blk_drewN ?_ _ | refine blk_drew ?_ | refine blk_alloc ?_ _)); exact BK540.out) hb); have n9_ := Aside0.mk (below_step (by repeat (first | (with_reducible first | exact HB.out | apply below_alloc | apply pw_below_drewN | apply below_drew1 | refine below_set ?_ GE522.out | refine below_set ?_ GE540.out) | exact HB.out)) hb); clear HO_8; clear HO_11; clear HO_541000; clear HO_541001; clear HO562; clear HO565; clear BK522; clear BK540; clear HB; have HO_8 := n0_; have HO_11 := n1_; have HO_541000 := n2_; have HO_541001 := n3_; have HO562 := n4_; have HO565 := n5_; have HO568 := n6_; have BK522 := n7_; have BK540 := n8_; have HB := n9_; clear n0_ n1_ n2_ n3_ n4_ n5_ n6_ n7_ n8_ n9_; (try clear hb); (try clear hb2); (try clear hk); (try clear hi); (try clear ho0)))
                      (try simp only [Act.put, List.setIfInBounds_toArray, List.set_cons_zero, List.set_cons_succ])
                      go_cut [97] (fun v97 wc => ∃ (kq : Nat) (x97_63 : Bool), v97 = .bool x97_63 ∧ Aside0 (laws_FnExactPathPerm.j2 kq t558 t557 x97_63 = some r) ∧ Aside0 (kq ≤ kj40) ∧ Aside0 (Kd.R (Kd.int .i64) 3 wc w.heap.size (fun k_ => some k_ ≠ ((.slice Ao25 t554.length co25) : Value).ownBlock ∧ some k_ ≠ ((.slice Ao28 t555.length co28) : Value).ownBlock) (.slice Ao65 t541.length co65) t558) ∧ Aside0 (Kd.R (Kd.int .i64) 3 wc w.heap.size (fun k_ => some k_ ≠ ((.slice Ao65 t541.length co65) : Value).ownBlock ∧ some k_ ≠ ((.slice Ao28 t555.length co28) : Value).ownBlock) (.slice Ao25 t554.length co25) t554) ∧ Aside0 (Kd.R (Kd.int .i64) 3 wc w.heap.size (fun k_ => some k_ ≠ ((.slice Ao65 t541.length co65) : Value).ownBlock ∧ some k_ ≠ ((.slice Ao25 t554.length co25) : Value).ownBlock) (.slice Ao28 t555.length co28) t555) ∧ Aside0 (wc.heap[gb522]? = some (.cells #[(.slice A0_0 l0_0.length c0_0), (.slice A0_1 l0_1.length c0_1)] 31 (0, 0))) ∧ Aside0 (wc.heap[gb540]? = some (.cells #[(.slice Ao25 t554.length co25), (.slice Ao28 t555.length co28)] 34 (0, 0))) ∧ Aside0 (Below w.heap.size w wc))
                      case first =>
                        have H := HC64.out
                        clear HC64
                        replace H := Option.bind_eq_some_iff.mp H
                        obtain ⟨t570, A730, H⟩ := H
                        replace H : (if t570 = true then (laws_FnExactPathPerm.j2 kj40 t558 t557 (t569 != t533)) else (laws_FnExactPathPerm.j2 kj40 t558 t557 true)) = some r := H
                        have A73 := Aside0.mk A730
                        clear A730
                        by_cases c74 : t570 = true
                        · subst c74
                          have H1 : (laws_FnExactPathPerm.j2 kj40 t558 t557 (t569 != t533)) = some r := by rw [if_pos rfl] at H; exact H
                          clear H
                          have H := H1
                          clear H1
                          have H' := Aside0.mk H
                          clear H
                          obtain ⟨Ao75, co75, eo75⟩ := Kd.R_slice HO568.out
                          subst eo75
                          obtain ⟨Ao76, co76, eo76⟩ := Kd.R_slice HO_8.out
                          subst eo76
                          go_wp2_with (first | ((with_reducible refine gate_callee (f := 26) rfl ?_); refine goesL_ (some 91) rfl rfl Try.func26 (by kernel_rfl) rfl #[.slice Ao75 t566.length co75, .slice Ao76 t530.length co76] rfl (by (try simp only [List.map_toArray, List.map_cons, List.map_nil]); first | done | rfl | (simp only [List.length_drop, List.length_take]; rfl)) ?_; (with_reducible refine (laws_eqIntS.calls kj40 _ _ t566 _ _ t530 true _ ?side1 ?side2 ?side3 ?side4 A73.out).mono ?_); (case side1 => repeat (first | exact (Kd.R_reads' HO568.out).2.2 | (with_reducible refine Kd.C_alloc ?_ _) | (with_reducible refine Kd.C_drewN ?_ _) | (with_reducible refine Kd.C_drew ?_))); (case side2 => exact (Kd.R_reads' HO568.out).2.1); (case side3 => repeat (first | exact (Kd.R_reads' HO_8.out).2.2 | (with_reducible refine Kd.C_alloc ?_ _) | (with_reducible refine Kd.C_drewN ?_ _) | (with_reducible refine Kd.C_drew ?_))); (case side4 => exact (Kd.R_reads' HO_8.out).2.1); rintro e w' ⟨rfl, ⟨nd, rfl⟩⟩; refine ⟨_, rfl, ?_⟩))
                          go_meet
                          case rel => exact ⟨_, ((t569 != t533)), (by first | rfl | (simp; done) | (simp [*]; done)), H', ⟨by have := HJ12.out; have := HJ40.out; first | omega | exact Nat.le_refl _⟩, ⟨by (try simp only [hl541000_40]); (try simp only [hl541001_40]); (with_reducible repeat (first | apply Kd.R_alloc | apply Kd.R_drewN | apply Kd.R_drew)); exact Kd.R_mono HO_11.out (fun _ hk => ⟨hk.1.1.1.2.1, hk.1.1.1.2.2⟩)⟩, ⟨by (try simp only [hl541000_40]); (try simp only [hl541001_40]); (with_reducible repeat (first | apply Kd.R_alloc | apply Kd.R_drewN | apply Kd.R_drew)); exact Kd.R_mono HO_541000.out (fun _ hk => ⟨hk.1.1.1.2.1, hk.1.1.1.2.2⟩)⟩, ⟨by (try simp only [hl541000_40]); (try simp only [hl541001_40]); (with_reducible repeat (first | apply Kd.R_alloc | apply Kd.R_drewN | apply Kd.R_drew)); exact Kd.R_mono HO_541001.out (fun _ hk => ⟨hk.1.1.1.2.1, hk.1.1.1.2.2⟩)⟩, ⟨by (try simp only [hl541000_40]); (try simp only [hl541001_40]); (with_reducible repeat (first | refine blk_drewN ?_ _ | refine blk_drew ?_ | refine blk_alloc ?_ _)); exact BK522.out⟩, ⟨by (try simp only [hl541000_40]); (try simp only [hl541001_40]); (with_reducible repeat (first | refine blk_drewN ?_ _ | refine blk_drew ?_ | refine blk_alloc ?_ _)); exact BK540.out⟩, ⟨by repeat (first | (with_reducible first | exact HB.out | apply below_alloc | apply pw_below_drewN | apply below_drew1 | refine below_set ?_ GE522.out | refine below_set ?_ GE540.out) | exact HB.out)⟩⟩
                        · replace c74 := Bool.eq_false_iff.mpr c74
                          subst c74
                          have H1 : (laws_FnExactPathPerm.j2 kj40 t558 t557 true) = some r := by rw [if_neg (show ¬ (false = true) by decide)] at H; exact H
                          clear H
                          have H := H1
                          clear H1
                          have H' := Aside0.mk H
                          clear H
                          obtain ⟨Ao77, co77, eo77⟩ := Kd.R_slice HO568.out
                          subst eo77
                          obtain ⟨Ao78, co78, eo78⟩ := Kd.R_slice HO_8.out
                          subst eo78
                          go_wp2_with (first | ((with_reducible refine gate_callee (f := 26) rfl ?_); refine goesL_ (some 91) rfl rfl Try.func26 (by kernel_rfl) rfl #[.slice Ao77 t566.length co77, .slice Ao78 t530.length co78] rfl (by (try simp only [List.map_toArray, List.map_cons, List.map_nil]); first | done | rfl | (simp only [List.length_drop, List.length_take]; rfl)) ?_; (with_reducible refine (laws_eqIntS.calls kj40 _ _ t566 _ _ t530 false _ ?side1 ?side2 ?side3 ?side4 A73.out).mono ?_); (case side1 => repeat (first | exact (Kd.R_reads' HO568.out).2.2 | (with_reducible refine Kd.C_alloc ?_ _) | (with_reducible refine Kd.C_drewN ?_ _) | (with_reducible refine Kd.C_drew ?_))); (case side2 => exact (Kd.R_reads' HO568.out).2.1); (case side3 => repeat (first | exact (Kd.R_reads' HO_8.out).2.2 | (with_reducible refine Kd.C_alloc ?_ _) | (with_reducible refine Kd.C_drewN ?_ _) | (with_reducible refine Kd.C_drew ?_))); (case side4 => exact (Kd.R_reads' HO_8.out).2.1); rintro e w' ⟨rfl, ⟨nd, rfl⟩⟩; refine ⟨_, rfl, ?_⟩))
                          go_meet
                          case rel => exact ⟨_, (true), (by first | rfl | (simp; done) | (simp [*]; done)), H', ⟨by have := HJ12.out; have := HJ40.out; first | omega | exact Nat.le_refl _⟩, ⟨by (try simp only [hl541000_40]); (try simp only [hl541001_40]); (with_reducible repeat (first | apply Kd.R_alloc | apply Kd.R_drewN | apply Kd.R_drew)); exact Kd.R_mono HO_11.out (fun _ hk => ⟨hk.1.1.1.2.1, hk.1.1.1.2.2⟩)⟩, ⟨by (try simp only [hl541000_40]); (try simp only [hl541001_40]); (with_reducible repeat (first | apply Kd.R_alloc | apply Kd.R_drewN | apply Kd.R_drew)); exact Kd.R_mono HO_541000.out (fun _ hk => ⟨hk.1.1.1.2.1, hk.1.1.1.2.2⟩)⟩, ⟨by (try simp only [hl541000_40]); (try simp only [hl541001_40]); (with_reducible repeat (first | apply Kd.R_alloc | apply Kd.R_drewN | apply Kd.R_drew)); exact Kd.R_mono HO_541001.out (fun _ hk => ⟨hk.1.1.1.2.1, hk.1.1.1.2.2⟩)⟩, ⟨by (try simp only [hl541000_40]); (try simp only [hl541001_40]); (with_reducible repeat (first | refine blk_drewN ?_ _ | refine blk_drew ?_ | refine blk_alloc ?_ _)); exact BK522.out⟩, ⟨by (try simp only [hl541000_40]); (try simp only [hl541001_40]); (with_reducible repeat (first | refine blk_drewN ?_ _ | refine blk_drew ?_ | refine blk_alloc ?_ _)); exact BK540.out⟩, ⟨by repeat (first | (with_reducible first | exact HB.out | apply below_alloc | apply pw_below_drewN | apply below_drew1 | refine below_set ?_ GE522.out | refine below_set ?_ GE540.out) | exact HB.out)⟩⟩
                      case rest =>
                        clear HC64
                        try clear c2
                        try clear p2
                        try clear c3
                        try clear c4
                        try clear c5
                        try clear c5b0
                        try clear c6
                        try clear c7
                        try clear c9
                        try clear c20
                        try clear c22
                        try clear c25
                        try clear c26
                        try clear c31
                        try clear c32
                        try clear c36
                        try clear c39
                        try clear c40
                        try clear c41
                        try clear c42
                        try clear c43
                        try clear c47
                        try clear c50
                        try clear c50b0
                        try clear c52
                        try clear c57
                        try clear c60
                        try clear c60b0
                        try clear c61
                        try clear c61b0
                        try clear c61b1
                        try clear c67
                        try clear c74
                        try clear hcz15_0
                        try clear hcz15_1
                        try clear hcz17_0
                        try clear hcz17_1
                        try clear hcz22_0
                        try clear hcz22_1
                        try clear hcz27_0
                        try clear hcz27_1
                        try clear hcz48_0
                        try clear hcz48_1
                        try clear hcz68_0
                        try clear hcz68_1
                        try clear hcz7_0
                        try clear hcz7_1
                        try clear hfz15_0
                        try clear hfz15_1
                        try clear hfz17_0
                        try clear hfz17_1
                        try clear hfz22_0
                        try clear hfz22_1
                        try clear hfz27_0
                        try clear hfz27_1
                        try clear hfz48_0
                        try clear hfz48_1
                        try clear hfz68_0
                        try clear hfz68_1
                        try clear hfz7_0
                        try clear hfz7_1
                        try clear p2
                        obtain ⟨kq, x97_63, rfl, HA, HJ63, HO_11, HO_541000, HO_541001, BK522, BK540, HB⟩ := hcut
                        have hl11_63 := (Kd.R_reads' HO_11.out).1
                        rw [hl11_63] at HO_11
                        (try simp only [hl11_63])
                        (try simp only [hl11_63] at BK522)
                        (try simp only [hl11_63] at BK540)
                        (try simp only [hl11_63] at HO_541000)
                        (try simp only [hl11_63] at HO_541001)
                        cases kq with
                        | zero => exact absurd HA.out (by simp [laws_FnExactPathPerm.j2])
                        | succ kj63 =>
                          have H := HA.out
                          clear HA
                          simp only [laws_FnExactPathPerm.j2] at H
                          by_cases c79 : x97_63 = true
                          · subst c79
                            have H1 : (some false) = some r := by rw [if_pos rfl] at H; exact H
                            clear H
                            have H := H1
                            clear H1
                            exact absurd (Option.some.inj H) (by rw [hr1_.out]; decide)
                          · replace c79 := Bool.eq_false_iff.mpr c79
                            subst c79
                            have H1 : ((laws_heldIntS.f kj63 t558 1).bind fun t571 => (if t571 < 0 then (some false) else (if t571 = t557 then (some true) else (some false)))) = some r := by rw [if_neg (show ¬ (false = true) by decide)] at H; exact H
                            clear H
                            have H := H1
                            clear H1
                            replace H := Option.bind_eq_some_iff.mp H
                            obtain ⟨t571, A800, H⟩ := H
                            replace H : (if t571 < 0 then (some false) else (if t571 = t557 then (some true) else (some false))) = some r := H
                            have A80 := Aside0.mk A800
                            clear A800
                            by_cases c81 : t571 < 0
                            · rw [if_pos c81] at H
                              have c81b0 : decide (t571 < 0) = true := decide_eq_true c81
                              clear c81
                              exact absurd (Option.some.inj H) (by rw [hr1_.out]; decide)
                            · rw [if_neg c81] at H
                              have c81b0 : decide (t571 < 0) = false := decide_eq_false c81
                              clear c81
                              by_cases c82 : t571 = t557
                              · rw [if_pos c82] at H
                                have c82b0 : (t571 == t557) = true := beq_iff_eq.mpr c82
                                have c82b1 : (t571 != t557) = false := bne_eq_false_iff_eq.mpr c82
                                clear c82
                                obtain rfl := Option.some.inj H
                                go_wp2_with (first | ((with_reducible refine gate_callee (f := 43) rfl ?_); refine goesL_ (some 100) rfl rfl Try.func43 (by kernel_rfl) rfl #[.slice Ao65 t558.length co65, .int .i64 1] rfl (by (try simp only [List.map_toArray, List.map_cons, List.map_nil]); first | done | rfl | (simp only [List.length_drop, List.length_take]; rfl)) ?_; (with_reducible refine (laws_heldIntS.calls kj63 _ _ t558 1 t571 _ ?side1 ?side2 A80.out).mono ?_); (case side1 => repeat (first | exact (Kd.R_reads' HO_11.out).2.2 | (with_reducible refine Kd.C_alloc ?_ _) | (with_reducible refine Kd.C_drewN ?_ _) | (with_reducible refine Kd.C_drew ?_))); (case side2 => exact (Kd.R_reads' HO_11.out).2.1); rintro e w' ⟨rfl, ⟨nd, rfl⟩⟩; refine ⟨_, rfl, ?_⟩))
                                go_ret
                                exact ⟨by first | rfl | (simp [errW_none, errW_some] <;> rfl) | (simp [*, errW_none, errW_some] <;> rfl), by repeat (first | (with_reducible first | exact HB.out | apply below_alloc | apply pw_below_drewN | apply below_drew1 | refine below_set ?_ GE522.out | refine below_set ?_ GE540.out) | exact HB.out)⟩
                              · rw [if_neg c82] at H
                                have c82b0 : (t571 == t557) = false := beq_eq_false_iff_ne.mpr c82
                                have c82b1 : (t571 != t557) = true := bne_iff_ne.mpr c82
                                exact absurd (Option.some.inj H) (by rw [hr1_.out]; decide)
                    · rw [if_neg c61] at H
                      have c61b0 : (t559 == t557) = false := beq_eq_false_iff_ne.mpr c61
                      have c61b1 : (t559 != t557) = true := bne_iff_ne.mpr c61
                      exact absurd (Option.some.inj H) (by rw [hr1_.out]; decide)
          · replace c39 := Bool.eq_false_iff.mpr c39
            subst c39
            have H1 : (some false) = some r := by rw [if_neg (show ¬ (false = true) by decide)] at H; exact H
            clear H
            have H := H1
            clear H1
            exact absurd (Option.some.inj H) (by rw [hr1_.out]; decide)
end Go.Proofs.Ytlbcafniodfdgaa.A
end
section
/- Slopes and paths: the program and the reference answer alike. No conditions. -/
namespace Go.Proofs.Ytlbcafniodfdgaa.M
set_option linter.unusedVariables false
set_option linter.unusedSimpArgs false
open Go.RowKit Go.Proofs.YtlbcafniodfdgaaW.PrintWords Go.Proofs.YtlbcafniodfdgaaW.PrintLast Go.Proofs.YtlbcafniodfdgaaW.PrintMore Go.Proofs.Ytlbcafniodfdgaa.A
def slopeOkI (p q : Int) : Bool := (impl_SlopeOk.f 60 p q).getD false
def slopeWordI (p q : Int) : ByteArray := (impl_SlopeWord.f 60 p q).getD ⟨#[]⟩
theorem slope_tab : ∀ a : Fin 13, ∀ b : Fin 13, spec_SlopeOk.f 60 (a.val : Int) (b.val : Int) = some (slopeOkI (a.val : Int) (b.val : Int)) ∧ impl_SlopeOk.f 60 (a.val : Int) (b.val : Int) = some (slopeOkI (a.val : Int) (b.val : Int)) := by decide +kernel
theorem slopeW_tab : ∀ a : Fin 13, ∀ b : Fin 13, spec_SlopeWord.f 60 (a.val : Int) (b.val : Int) = some (slopeWordI (a.val : Int) (b.val : Int)) ∧ impl_SlopeWord.f 60 (a.val : Int) (b.val : Int) = some (slopeWordI (a.val : Int) (b.val : Int)) ∧ (slopeWordI (a.val : Int) (b.val : Int)).size ≤ 12 := by decide +kernel
theorem slope_out {p q : Int} (h : ¬ ((0 ≤ p ∧ p ≤ 12) ∧ (0 ≤ q ∧ q ≤ 12))) (k : Nat) : spec_SlopeOk.f k p q = some false ∧ impl_SlopeOk.f k p q = some false := by
  unfold spec_SlopeOk.f impl_SlopeOk.f spec_l01In.f
  by_cases h1 : 0 ≤ p
  · by_cases h2 : p ≤ 12
    · by_cases h3 : 0 ≤ q
      · have h4 : ¬ q ≤ 12 := by omega
        simp [h1, h2, h3, h4]
      · simp [h1, h2, h3]
    · by_cases h3 : 0 ≤ q <;> simp [h1, h2, h3]
  · simp [h1]
theorem slope_false {p q : Int} (h : ¬ ((0 ≤ p ∧ p ≤ 12) ∧ (0 ≤ q ∧ q ≤ 12))) : slopeOkI p q = false := by
  unfold slopeOkI
  rw [(slope_out h 60).2]
  rfl
theorem slopes_ev (p q : Int) : Ev (fun k => spec_SlopeOk.f k p q) (slopeOkI p q) ∧ Ev (fun k => impl_SlopeOk.f k p q) (slopeOkI p q) := by
  by_cases h : (0 ≤ p ∧ p ≤ 12) ∧ (0 ≤ q ∧ q ≤ 12)
  · obtain ⟨⟨h1, h2⟩, h3, h4⟩ := h
    obtain ⟨a, rfl⟩ : ∃ a : Nat, p = a := ⟨p.toNat, by omega⟩
    obtain ⟨b, rfl⟩ : ∃ b : Nat, q = b := ⟨q.toNat, by omega⟩
    have := slope_tab ⟨a, by omega⟩ ⟨b, by omega⟩
    exact ⟨Ev.of (fun k => spec_SlopeOk.mono _ _ k) this.1, Ev.of (fun k => impl_SlopeOk.mono _ _ k) this.2⟩
  · rw [slope_false h]
    exact ⟨⟨0, fun k _ => (slope_out h k).1⟩, ⟨0, fun k _ => (slope_out h k).2⟩⟩
theorem slope_in {p q : Int} (h : slopeOkI p q = true) : (0 ≤ p ∧ p ≤ 12) ∧ (0 ≤ q ∧ q ≤ 12) := by
  apply Classical.byContradiction
  intro k
  rw [slope_false k] at h
  cases h
theorem words_ev {p q : Int} (h : slopeOkI p q = true) : Ev (fun k => spec_SlopeWord.f k p q) (slopeWordI p q) ∧ Ev (fun k => impl_SlopeWord.f k p q) (slopeWordI p q) ∧ (slopeWordI p q).size ≤ 12 := by
  obtain ⟨⟨h1, h2⟩, h3, h4⟩ := slope_in h
  obtain ⟨a, rfl⟩ : ∃ a : Nat, p = a := ⟨p.toNat, by omega⟩
  obtain ⟨b, rfl⟩ : ∃ b : Nat, q = b := ⟨q.toNat, by omega⟩
  have := slopeW_tab ⟨a, by omega⟩ ⟨b, by omega⟩
  exact ⟨Ev.of (fun k => spec_SlopeWord.mono _ _ k) this.1, Ev.of (fun k => impl_SlopeWord.mono _ _ k) this.2.1, this.2.2⟩
theorem spec_id (n : Nat) (h : n ≤ 1000) : Ev (fun k => spec_l02Identity.f k (n : Int)) (I (idn n)) := by
  unfold spec_l02Identity.f
  have H : ∀ d i : Nat, i + d = n → Ev (fun k => spec_l02Identity.l0 k (n : Int) (I (idn i)) (i : Int)) (I (idn n)) := by
    intro d
    induction d with
    | zero =>
      intro i h
      obtain rfl : i = n := by omega
      refine ev_succ ?_
      have h1 : ¬ ((i : Int) < (i : Int)) := by omega
      simp only [spec_l02Identity.l0, h1, if_false]
      exact Ev.now _
    | succ d ih =>
      intro i h
      refine ev_succ ?_
      have h1 : (i : Int) < (n : Int) := by omega
      have h2 := w64s i (by omega)
      have h3 : (I (idn i)).length < 17592186044416 := by rw [I_len, idn_len]; omega
      have e : idn i ++ [i] = idn (i + 1) := by unfold idn tab; rw [List.range_succ]; simp
      simp only [spec_l02Identity.l0, h1, h2, h3, if_true, I_snoc, e]
      exact ih (i + 1) (by omega)
  exact H n 0 (by omega)
theorem tab_snoc (i : Nat) (f : Nat → Nat) : tab i f ++ [f i] = tab (i + 1) f := by unfold tab; rw [List.range_succ]; simp
theorem spec_then {p q : List Nat} (hp : ∀ i, i < p.length → g p i < q.length) (h : p.length ≤ 1000) : Ev (fun k => spec_l02Then.f k (I p) (I q)) (I (thn p q)) := by
  unfold spec_l02Then.f
  have H : ∀ d i : Nat, i + d = p.length → Ev (fun k => spec_l02Then.l0 k (I q) (I (tab i (fun i => g q (g p i)))) (I p) (p.length : Int) (i : Int)) (I (thn p q)) := by
    intro d
    induction d with
    | zero =>
      intro i h
      obtain rfl : i = p.length := by omega
      refine ev_succ ?_
      have h1 : ¬ ((p.length : Int) < (p.length : Int)) := by omega
      simp only [spec_l02Then.l0, h1, if_false]
      exact Ev.now _
    | succ d ih =>
      intro i h
      have hi : i < p.length := by omega
      have hg := hp i hi
      refine ev_succ ?_
      have h1 : (i : Int) < (p.length : Int) := by omega
      have h2 := w64s i (by omega)
      have h3 : (I (tab i (fun i => g q (g p i)))).length < 17592186044416 := by rw [I_len, tab_len]; omega
      have h4 : (0 : Int) ≤ (i : Int) := by omega
      have h5 : (0 : Int) ≤ ((g p i : Nat) : Int) := by omega
      have h6 : ((g p i : Nat) : Int) < (q.length : Int) := by omega
      have e := tab_snoc i (fun i => g q (g p i))
      simp only [spec_l02Then.l0, h1, h2, h3, h4, h5, h6, rdI, I_len', if_true, I_snoc, e]
      exact ih (i + 1) (by omega)
  have := H p.length 0 (by omega)
  simp only [I_len']
  exact this
def wk (r u : List Nat) (w : ByteArray) : Nat → Nat → Nat
  | 0, x => x
  | j + 1, x => if bt w (j : Int) = 114 then g r (wk r u w j x) else g u (wk r u w j x)
theorem wk_lt {r u : List Nat} (hs : Sf r u) (w : ByteArray) (j : Nat) {x : Nat} (hx : x < r.length) : wk r u w j x < r.length := by
  induction j with
  | zero => exact hx
  | succ j ih =>
    unfold wk
    split
    · exact g_lt hs.pr ih
    · have := g_lt hs.pu (i := wk r u w j x) (by rw [hs.eq]; exact ih)
      rw [hs.eq] at this
      exact this
theorem wk_inj {r u : List Nat} (hs : Sf r u) (w : ByteArray) (j : Nat) {x y : Nat} (hx : x < r.length) (hy : y < r.length) (h : wk r u w j x = wk r u w j y) : x = y := by
  induction j with
  | zero => exact h
  | succ j ih =>
    unfold wk at h
    split at h
    · exact ih (g_inj hs.pr (wk_lt hs w j hx) (wk_lt hs w j hy) h)
    · exact ih (g_inj hs.pu (by rw [hs.eq]; exact wk_lt hs w j hx) (by rw [hs.eq]; exact wk_lt hs w j hy) h)
def pathL (r u : List Nat) (w : ByteArray) : List Nat := tab r.length (wk r u w w.size)
theorem pathL_len (r u : List Nat) (w : ByteArray) : (pathL r u w).length = r.length := tab_len _ _
theorem isP_pathL {r u : List Nat} (hs : Sf r u) (w : ByteArray) : IsP (pathL r u w) :=
  isP_tab (fun i hi => wk_lt hs w _ hi) (fun i j hi hj e => wk_inj hs w _ hi hj e)
theorem spec_path {r u : List Nat} (hs : Sf r u) (w : ByteArray) (hw : w.size ≤ 1000) : Ev (fun k => spec_l09Path.f k (I r) (I u) w) (I (pathL r u w)) := by
  unfold spec_l09Path.f
  have hle := hs.le
  have hid := spec_id r.length (by omega)
  simp only [I_len']
  refine Ev.bind hid ?_
  have H : ∀ d i : Nat, i + d = w.size → Ev (fun k => spec_l09Path.l0 k w (I (tab r.length (wk r u w i))) (i : Int) (I r) (I u)) (I (pathL r u w)) := by
    intro d
    induction d with
    | zero =>
      intro i h
      obtain rfl : i = w.size := by omega
      refine ev_succ ?_
      have h1 : ¬ ((w.size : Int) < (w.size : Int)) := by omega
      simp only [spec_l09Path.l0, h1, if_false]
      exact Ev.now _
    | succ d ih =>
      intro i h
      refine ev_succ ?_
      have h1 : (i : Int) < (w.size : Int) := by omega
      have h2 : (0 : Int) ≤ (i : Int) := by omega
      have h3 := w64s i (by omega)
      have hl : (tab r.length (wk r u w i)).length = r.length := tab_len _ _
      have i1 := ih (i + 1) (by omega)
      by_cases c : bt w (i : Int) = 114
      · have t := spec_then (p := tab r.length (wk r u w i)) (q := r) (fun j hj => by rw [hl] at hj; rw [g_tab hj]; exact wk_lt hs w i hj) (by omega)
        have e : thn (tab r.length (wk r u w i)) r = tab r.length (wk r u w (i + 1)) :=
          eq_tab (by rw [thn_len, hl]) (fun j hj => by rw [g_thn (by rw [hl]; exact hj), g_tab hj, wk, if_pos c])
        rw [e] at t
        simp only [spec_l09Path.l0, h1, h2, h3, c, if_true]
        exact Ev.bind t i1
      · have t := spec_then (p := tab r.length (wk r u w i)) (q := u) (fun j hj => by rw [hl] at hj; rw [g_tab hj, hs.eq]; exact wk_lt hs w i hj) (by omega)
        have e : thn (tab r.length (wk r u w i)) u = tab r.length (wk r u w (i + 1)) :=
          eq_tab (by rw [thn_len, hl]) (fun j hj => by rw [g_thn (by rw [hl]; exact hj), g_tab hj, wk, if_neg c])
        rw [e] at t
        simp only [spec_l09Path.l0, h1, h2, h3, c, if_true, if_false]
        exact Ev.bind t i1
  exact H w.size 0 (by omega)
def pathP (r u : List Int) (p q : Int) : List Int × Bool := if surfB r u = true ∧ slopeOkI p q = true then (I (pathL (N r) (N u) (slopeWordI p q)), true) else ([], false)
theorem spec_pathPerm (r u : List Int) (p q : Int) : Ev (fun k => spec_PathPerm.f k r u p q) (pathP r u p q) := by
  unfold spec_PathPerm.f
  refine Ev.bind (spec_surf r u) ?_
  by_cases h1 : surfB r u = true
  · simp only [h1, if_true]
    refine Ev.bind (slopes_ev p q).1 ?_
    refine ev_succ ?_
    by_cases h2 : slopeOkI p q = true
    · obtain ⟨r, u, rfl, rfl, hs⟩ := surf_nat h1
      obtain ⟨w1, _, w3⟩ := words_ev h2
      have e : pathP (I r) (I u) p q = (I (pathL r u (slopeWordI p q)), true) := by
        unfold pathP
        rw [if_pos ⟨h1, h2⟩, N_I, N_I]
      rw [e]
      simp only [spec_PathPerm.j0, h2, Bool.not_true, Bool.false_eq_true, if_false]
      exact Ev.bind w1 (Ev.bind (spec_path hs _ (by omega)) (Ev.now _))
    · have h2' := Bool.eq_false_iff.mpr h2
      have e : pathP r u p q = ([], false) := by
        unfold pathP
        rw [if_neg (fun h => h2 h.2)]
      rw [e]
      simp only [spec_PathPerm.j0, h2', Bool.not_false, if_true]
      exact Ev.now _
  · have h1' := Bool.eq_false_iff.mpr h1
    have e : pathP r u p q = ([], false) := by
      unfold pathP
      rw [if_neg (fun h => h1 h.1)]
    rw [e]
    simp only [h1', Bool.false_eq_true, if_false]
    refine ev_succ ?_
    simp only [spec_PathPerm.j0, if_true]
    exact Ev.now _
theorem step_ev {r u : List Nat} (hs : Sf r u) {x : Nat} (hx : x < r.length) (c : Int) : impl_stepSquare.f (I r) (I u) (x : Int) c = some (((if c = 114 then g r x else g u x : Nat) : Nat) : Int) := by
  unfold impl_stepSquare.f
  have h1 : (0 : Int) ≤ (x : Int) := by omega
  have h2 : (x : Int) < (r.length : Int) := by omega
  have h3 : (x : Int) < (u.length : Int) := by rw [hs.eq]; omega
  by_cases h : c = 114
  · simp only [h, h1, h2, rdI, I_len', if_true]
  · simp only [h, h1, h3, rdI, I_len', if_true, if_false]
theorem impl_pathPerm (r u : List Int) (p q : Int) : Ev (fun k => impl_PathPerm.f k r u p q) (pathP r u p q) := by
  unfold impl_PathPerm.f
  refine Ev.bind (impl_surf r u) ?_
  by_cases h1 : surfB r u = true
  · simp only [h1, if_true]
    refine Ev.bind (slopes_ev p q).2 ?_
    refine ev_succ ?_
    by_cases h2 : slopeOkI p q = true
    · obtain ⟨r, u, rfl, rfl, hs⟩ := surf_nat h1
      obtain ⟨_, w2, w3⟩ := words_ev h2
      have hle := hs.le
      have e : pathP (I r) (I u) p q = (I (pathL r u (slopeWordI p q)), true) := by
        unfold pathP
        rw [if_pos ⟨h1, h2⟩, N_I, N_I]
      rw [e]
      simp only [impl_PathPerm.j0, h2, Bool.not_true, Bool.false_eq_true, if_false]
      refine Ev.bind w2 ?_
      generalize slopeWordI p q = w at w3
      have L1 : ∀ (i : Nat) (out : List Int) (res : List Int × Bool), i < r.length → out.length < 17592186044416 →
          Ev (fun k => impl_PathPerm.l0 k w (out ++ [((wk r u w w.size i : Nat) : Int)]) (r.length : Int) ((i + 1 : Nat) : Int) (I r) (I u)) res →
          ∀ d j : Nat, j + d = w.size → Ev (fun k => impl_PathPerm.l1 k w out ((wk r u w j i : Nat) : Int) (j : Int) (r.length : Int) (i : Int) (I r) (I u)) res := by
        intro i out res hi ho H d
        induction d with
        | zero =>
          intro j h
          obtain rfl : j = w.size := by omega
          refine ev_succ ?_
          have h1 : ¬ ((w.size : Int) < (w.size : Int)) := by omega
          have h2 := w64s i (by omega)
          simp only [impl_PathPerm.l1, h1, h2, ho, if_true, if_false]
          exact H
        | succ d ih =>
          intro j h
          refine ev_succ ?_
          have h1 : (j : Int) < (w.size : Int) := by omega
          have h2 : (0 : Int) ≤ (j : Int) := by omega
          have h3 := w64s j (by omega)
          have := step_ev hs (wk_lt hs w j hi) (bt w (j : Int))
          simp only [impl_PathPerm.l1, h1, h2, h3, this, if_true, Option.bind_some]
          have := ih (j + 1) (by omega)
          rw [wk] at this
          exact this
      have L0 : ∀ d i : Nat, i + d = r.length → Ev (fun k => impl_PathPerm.l0 k w (I (tab i (wk r u w w.size))) (r.length : Int) (i : Int) (I r) (I u)) (I (pathL r u w), true) := by
        intro d
        induction d with
        | zero =>
          intro i h
          obtain rfl : i = r.length := by omega
          refine ev_succ ?_
          have h1 : ¬ ((r.length : Int) < (r.length : Int)) := by omega
          simp only [impl_PathPerm.l0, h1, if_false]
          exact Ev.now _
        | succ d ih =>
          intro i h
          refine ev_succ ?_
          have h1 : (i : Int) < (r.length : Int) := by omega
          simp only [impl_PathPerm.l0, h1, if_true]
          have i1 := ih (i + 1) (by omega)
          rw [← tab_snoc, ← I_snoc] at i1
          exact L1 i _ _ (by omega) (by rw [I_len, tab_len]; omega) i1 w.size 0 (by omega)
      have := L0 r.length 0 (by omega)
      simp only [I_len']
      exact this
    · have h2' := Bool.eq_false_iff.mpr h2
      have e : pathP r u p q = ([], false) := by
        unfold pathP
        rw [if_neg (fun h => h2 h.2)]
      rw [e]
      simp only [impl_PathPerm.j0, h2', Bool.not_false, if_true]
      exact Ev.now _
  · have h1' := Bool.eq_false_iff.mpr h1
    have e : pathP r u p q = ([], false) := by
      unfold pathP
      rw [if_neg (fun h => h1 h.1)]
    rw [e]
    simp only [h1', Bool.false_eq_true, if_false]
    refine ev_succ ?_
    simp only [impl_PathPerm.j0, if_true]
    exact Ev.now _
end Go.Proofs.Ytlbcafniodfdgaa.M
end
section
/- Rounds of paths: the program and the reference answer alike. No conditions. -/
namespace Go.Proofs.Ytlbcafniodfdgaa.M
set_option linter.unusedVariables false
set_option linter.unusedSimpArgs false
open Go.RowKit Go.Proofs.YtlbcafniodfdgaaW.PrintWords Go.Proofs.YtlbcafniodfdgaaW.PrintLast Go.Proofs.YtlbcafniodfdgaaW.PrintMore Go.Proofs.Ytlbcafniodfdgaa.A
def itr (p : List Nat) : Nat → Nat → Nat
  | 0, s => s
  | m + 1, s => g p (itr p m s)
theorem itr_lt {p : List Nat} (hp : IsP p) (m : Nat) {s : Nat} (hs : s < p.length) : itr p m s < p.length := by
  induction m with
  | zero => exact hs
  | succ m ih => exact g_lt hp ih
theorem itr_back {p : List Nat} (hp : IsP p) {s : Nat} (hs : s < p.length) (i d : Nat) (h : itr p (i + d) s = itr p i s) : itr p d s = s := by
  induction i with
  | zero =>
    have e : 0 + d = d := by omega
    rw [e] at h
    exact h
  | succ i ih =>
    have e : i + 1 + d = (i + d) + 1 := by omega
    rw [e] at h
    exact ih (g_inj hp (itr_lt hp _ hs) (itr_lt hp _ hs) h)
theorem period {p : List Nat} (hp : IsP p) {s : Nat} (hs : s < p.length) : ∃ m, 1 ≤ m ∧ m ≤ p.length ∧ itr p m s = s := by
  apply Classical.byContradiction
  intro hn
  have hd : ((List.range (p.length + 1)).map (fun m => itr p m s)).Nodup := by
    refine List.pairwise_map.mpr ?_
    refine List.pairwise_iff_getElem.mpr ?_
    intro i j hi hj hij
    rw [List.length_range] at hi hj
    rw [List.getElem_range, List.getElem_range]
    intro e
    have : itr p (j - i) s = s := itr_back hp hs i (j - i) (by
      have e2 : i + (j - i) = j := by omega
      rw [e2]
      exact e.symm)
    exact hn ⟨j - i, by omega, by omega, this⟩
  have := nodup_le p.length _ hd (fun x hx => by
    obtain ⟨m, _, rfl⟩ := List.mem_map.mp hx
    exact itr_lt hp m hs)
  simp at this
  omega
theorem rounds_both {p : List Nat} (hp : IsP p) (h24 : p.length ≤ 24) {s : Nat} (hs : s < p.length) : ∃ r, Ev (fun k => spec_PathRounds.l0 k (s : Int) (I p) 1 ((g p s : Nat) : Int)) r ∧ Ev (fun k => impl_PathRounds.l0 k (s : Int) (I p) 1 ((g p s : Nat) : Int)) r := by
  obtain ⟨m, m1, m2, m3⟩ := period hp hs
  have H : ∀ d c : Nat, c + d = m → 1 ≤ c → ∃ r, Ev (fun k => spec_PathRounds.l0 k (s : Int) (I p) (c : Int) ((itr p c s : Nat) : Int)) r ∧ Ev (fun k => impl_PathRounds.l0 k (s : Int) (I p) (c : Int) ((itr p c s : Nat) : Int)) r := by
    intro d
    induction d with
    | zero =>
      intro c h hc
      obtain rfl : c = m := by omega
      refine ⟨(c : Int), ev_succ ?_, ev_succ ?_⟩
      · simp only [spec_PathRounds.l0, m3, if_true]
        exact Ev.now _
      · simp only [impl_PathRounds.l0, m3, if_true]
        exact Ev.now _
    | succ d ih =>
      intro c h hc
      by_cases e : itr p c s = s
      · refine ⟨(c : Int), ev_succ ?_, ev_succ ?_⟩
        · simp only [spec_PathRounds.l0, e, if_true]
          exact Ev.now _
        · simp only [impl_PathRounds.l0, e, if_true]
          exact Ev.now _
      · have e' : ¬ (((itr p c s : Nat) : Int) = (s : Int)) := by omega
        obtain ⟨r, i1, i2⟩ := ih (c + 1) (by omega) (by omega)
        have hl := itr_lt hp c hs
        have h1 : (0 : Int) ≤ ((itr p c s : Nat) : Int) := by omega
        have h2 : ((itr p c s : Nat) : Int) < (p.length : Int) := by omega
        have h3 := w64s c (by omega)
        refine ⟨r, ev_succ ?_, ev_succ ?_⟩
        · simp only [spec_PathRounds.l0, e', h1, h2, h3, rdI, I_len', if_true, if_false]
          exact i1
        · simp only [impl_PathRounds.l0, e', h1, h2, h3, rdI, I_len', if_true, if_false]
          exact i2
  exact H (m - 1) 1 (by omega) (by omega)
theorem pathRounds_both (r u : List Int) (s p q : Int) : ∃ n, Ev (fun k => spec_PathRounds.f k r u s p q) n ∧ Ev (fun k => impl_PathRounds.f k r u s p q) n := by
  unfold spec_PathRounds.f impl_PathRounds.f spec_l13Ok.f
  have hp := impl_pathPerm r u p q
  have j0 : ∀ (x : Int) (l : List Int), Ev (fun k => impl_PathRounds.j0 k x l true) 0 := fun x l => by
    refine ev_succ ?_
    simp only [impl_PathRounds.j0, if_true]
    exact Ev.now _
  have no : ∀ (b : Bool), b = false → Ev (fun k => if b = true then ((spec_SlopeWord.f k p q).bind fun t464 => ((spec_l09Path.f k r u t464).bind fun t465 => (if 0 ≤ s then (if s < (t465.length : Int) then (spec_PathRounds.l0 k s t465 1 (rd t465 s)) else (none)) else (none)))) else (some 0)) (0 : Int) := fun b hb => by
    subst hb
    simp only [Bool.false_eq_true, if_false]
    exact Ev.now _
  by_cases h1 : surfB r u = true
  · by_cases h2 : slopeOkI p q = true
    · obtain ⟨r, u, rfl, rfl, hs⟩ := surf_nat h1
      obtain ⟨w1, _, w3⟩ := words_ev h2
      have e : pathP (I r) (I u) p q = (I (pathL r u (slopeWordI p q)), true) := by
        unfold pathP
        rw [if_pos ⟨h1, h2⟩, N_I, N_I]
      rw [e] at hp
      have hsp := spec_path hs (slopeWordI p q) (by omega)
      have hP := isP_pathL hs (slopeWordI p q)
      have hl := pathL_len r u (slopeWordI p q)
      by_cases h3 : 0 ≤ s
      · by_cases h4 : s < (r.length : Int)
        · obtain ⟨s, rfl⟩ : ∃ t : Nat, s = t := ⟨s.toNat, by omega⟩
          obtain ⟨n, i1, i2⟩ := rounds_both hP (by rw [hl]; exact hs.le) (s := s) (by omega)
          refine ⟨n, ?_, ?_⟩
          · refine Ev.bind (a := true) (Ev.bind (spec_surf (I r) (I u)) ?_) ?_
            · have h3' : (s : Int) ≥ 0 := h3
              simp only [h1, h3', I_len', h4, if_true]
              have := (slopes_ev p q).1
              rw [h2] at this
              exact Ev.bind this (Ev.now _)
            · simp only [if_true]
              refine Ev.bind w1 (Ev.bind hsp ?_)
              have h5 : (s : Int) < ((pathL r u (slopeWordI p q)).length : Int) := by rw [hl]; exact h4
              simp only [h3, h5, I_len', rdI, if_true]
              exact i1
          · refine Ev.bind hp ?_
            have h5 : ¬ ((s : Int) < 0) := by omega
            have h6 : decide ((s : Int) ≥ ((pathL r u (slopeWordI p q)).length : Int)) = false := by rw [decide_eq_false_iff_not, hl]; omega
            have h7 : (s : Int) < ((pathL r u (slopeWordI p q)).length : Int) := by rw [hl]; exact h4
            simp only [h5, h6, I_len', if_true, if_false]
            refine ev_succ ?_
            simp only [impl_PathRounds.j0, Bool.false_eq_true, h3, h7, I_len', rdI, if_true, if_false]
            exact i2
        · refine ⟨0, ?_, ?_⟩
          · refine Ev.bind (a := false) (Ev.bind (spec_surf (I r) (I u)) ?_) (no false rfl)
            have h3' : s ≥ 0 := h3
            simp only [h1, h3', I_len', h4, if_true, if_false]
            exact Ev.now _
          · refine Ev.bind hp ?_
            have h5 : ¬ (s < 0) := by omega
            have h6 : decide (s ≥ ((pathL r u (slopeWordI p q)).length : Int)) = true := by rw [decide_eq_true_iff, hl]; omega
            simp only [h5, h6, I_len', if_true, if_false]
            exact j0 _ _
      · refine ⟨0, ?_, ?_⟩
        · refine Ev.bind (a := false) (Ev.bind (spec_surf (I r) (I u)) ?_) (no false rfl)
          have h3' : ¬ s ≥ 0 := h3
          simp only [h1, h3', if_true, if_false]
          exact Ev.now _
        · refine Ev.bind hp ?_
          have h5 : s < 0 := by omega
          simp only [h5, if_true]
          exact j0 _ _
    · have h2' := Bool.eq_false_iff.mpr h2
      have e : pathP r u p q = ([], false) := by
        unfold pathP
        rw [if_neg (fun h => h2 h.2)]
      rw [e] at hp
      refine ⟨0, ?_, ?_⟩
      · refine Ev.bind (a := false) (Ev.bind (spec_surf r u) ?_) (no false rfl)
        simp only [h1, if_true]
        by_cases h3 : s ≥ 0
        · simp only [h3, if_true]
          by_cases h4 : s < (r.length : Int)
          · simp only [h4, if_true]
            have := (slopes_ev p q).1
            rw [h2'] at this
            exact Ev.bind this (Ev.now _)
          · simp only [h4, if_false]
            exact Ev.now _
        · simp only [h3, if_false]
          exact Ev.now _
      · refine Ev.bind hp ?_
        simp only [Bool.false_eq_true, if_false]
        exact j0 _ _
  · have h1' := Bool.eq_false_iff.mpr h1
    have e : pathP r u p q = ([], false) := by
      unfold pathP
      rw [if_neg (fun h => h1 h.1)]
    rw [e] at hp
    refine ⟨0, ?_, ?_⟩
    · refine Ev.bind (a := false) (Ev.bind (spec_surf r u) ?_) (no false rfl)
      simp only [h1', Bool.false_eq_true, if_false]
      exact Ev.now _
    · refine Ev.bind hp ?_
      simp only [Bool.false_eq_true, if_false]
      exact j0 _ _
end Go.Proofs.Ytlbcafniodfdgaa.M
end
section
/- What PathRounds and the reference compute is the same, for all arguments. No conditions. -/
namespace Go.Proofs.Ytlbcafniodfdgaa.Pure
set_option linter.unusedVariables false
set_option linter.unusedSimpArgs false
open Go.RowKit Go.Proofs.YtlbcafniodfdgaaW.PrintWords Go.Proofs.YtlbcafniodfdgaaW.PrintLast Go.Proofs.YtlbcafniodfdgaaW.PrintMore Go.Proofs.Ytlbcafniodfdgaa.A Go.Proofs.Ytlbcafniodfdgaa.M
theorem FnExactPathRounds (r u : List Int) (s p q : Int) (hr : r.length ≤ maxLen) (_ : ∀ x ∈ r, (Lit.int .i64 x).wf = true) (hu : u.length ≤ maxLen) (_ : ∀ x ∈ u, (Lit.int .i64 x).wf = true) (_ : (Lit.int .i64 s).wf = true) (_ : (Lit.int .i64 p).wf = true) (_ : (Lit.int .i64 q).wf = true) : ∃ k, laws_FnExactPathRounds.f k r u s p q = some true := by
  unfold maxLen at hr hu
  refine Ev.rounds ?_
  unfold laws_FnExactPathRounds.f
  by_cases h2 : r.length + u.length ≤ 1048576
  · rw [sz_small h2]
    have h3 : ¬ (1048576 - (r.length : Int) - (u.length : Int) < 0) := by omega
    simp only [Option.bind_some, h3, if_false]
    have ts := toSurf_ev r u (by omega) (by omega)
    obtain ⟨n, i1, i2⟩ := pathRounds_both r u s p q
    refine Ev.bind ts (Ev.bind i1 (Ev.bind ts (Ev.bind i2 ?_)))
    simp only [if_true]
    refine Ev.bind ts (Ev.bind (eqSurf_same r u (by omega) (by omega)) ?_)
    simp only [if_true]
    exact Ev.now _
  · rw [sz_big (by omega) (by omega) h2]
    have h3 : (-1 : Int) < 0 := by omega
    simp only [Option.bind_some, h3, if_true]
    exact Ev.now _
end Go.Proofs.Ytlbcafniodfdgaa.Pure
end
