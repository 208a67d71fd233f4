/- Lemmas for the row FnExactVisits: the program's functions told as plain functions, and plain mathematics. No conditions. -/
import Derived.Shelf.Strings.Repeat
import Derived.Test.YtbdnellgioimbaaQFnExactVisits2
section
namespace Go.Proofs.Ytbdnellgioimbaa.A
open Go.RowKit Go.Proofs.YtbdnellgioimbaaW.PrintWords Go.Proofs.YtbdnellgioimbaaW.PrintLast Go.Proofs.YtbdnellgioimbaaW.PrintMore
attribute [local go_sem] max2_int min2_int max_two min_two max_three min_three max_four min_four
set_option linter.unusedVariables false
set_option linter.unusedSimpArgs false
mutual
def impl_PathRounds.j0 : Nat → Int → List Int → Bool → Option (Int)
  | 0, _, _, _ => none
  | k + 1, x1, x9, x31 => if x31 = true then (some 0) else (if 0 ≤ x1 then (if x1 < (x9.length : Int) then (impl_PathRounds.l0 k x1 x9 1 (rd x9 x1)) else (none)) else (none))
def impl_PathRounds.l0 : Nat → Int → List Int → Int → Int → Option (Int)
  | 0, _, _, _, _ => none
  | k + 1, x1, x9, x11, x12 => if x12 = x1 then (some x11) else (if 0 ≤ x12 then (if x12 < (x9.length : Int) then (impl_PathRounds.l0 k x1 x9 (wrap64 (x11 + 1)) (rd x9 x12)) else (none)) else (none))
end
def impl_PathRounds.f (k : Nat) (l0_0 : List Int) (l0_1 : List Int) (a1 : Int) (a2 : Int) (a3 : Int) : Option (Int) := (impl_PathPerm.f k l0_0 l0_1 a2 a3).bind fun bt1013 => (if bt1013.2 = true then (if a1 < 0 then (impl_PathRounds.j0 k a1 bt1013.1 true) else (impl_PathRounds.j0 k a1 bt1013.1 (decide (a1 ≥ (bt1013.1.length : Int))))) else (impl_PathRounds.j0 k a1 bt1013.1 true))
theorem impl_PathRounds.mono_l : ∀ k, (∀ y0 y1 y2, LeO (impl_PathRounds.j0 k y0 y1 y2) (impl_PathRounds.j0 (k + 1) y0 y1 y2)) ∧ (∀ y0 y1 y2 y3, LeO (impl_PathRounds.l0 k y0 y1 y2 y3) (impl_PathRounds.l0 (k + 1) y0 y1 y2 y3))
  | 0 => ⟨fun _ _ _ r h => by simp [impl_PathRounds.j0] at h, fun _ _ _ _ r h => by simp [impl_PathRounds.l0] at h⟩
  | k + 1 => by
    obtain ⟨ih0, ih1⟩ := impl_PathRounds.mono_l k
    refine ⟨?_, ?_⟩
    · intro y0 y1 y2
      unfold impl_PathRounds.j0
      repeat' first
      | (with_reducible exact ih0 _ _ _)
      | (with_reducible exact ih1 _ _ _ _)
      | (with_reducible exact impl_PathPerm.mono _ _ _ _ _)
      | (with_reducible exact LeO.refl _)
      | (with_reducible exact LeO.none _)
      | (with_reducible refine LeO.ite ?_ ?_)
      | (with_reducible refine LeO.bind ?_ (fun _ => ?_))
      | exact ih0 _ _ _
      | exact ih1 _ _ _ _
      | exact impl_PathPerm.mono _ _ _ _ _
      | exact LeO.none _
      | refine LeO.ite ?_ ?_
      | refine LeO.bind ?_ (fun _ => ?_)
    · intro y0 y1 y2 y3
      unfold impl_PathRounds.l0
      repeat' first
      | (with_reducible exact ih0 _ _ _)
      | (with_reducible exact ih1 _ _ _ _)
      | (with_reducible exact impl_PathPerm.mono _ _ _ _ _)
      | (with_reducible exact LeO.refl _)
      | (with_reducible exact LeO.none _)
      | (with_reducible refine LeO.ite ?_ ?_)
      | (with_reducible refine LeO.bind ?_ (fun _ => ?_))
      | exact ih0 _ _ _
      | exact ih1 _ _ _ _
      | exact impl_PathPerm.mono _ _ _ _ _
      | exact LeO.none _
      | refine LeO.ite ?_ ?_
      | refine LeO.bind ?_ (fun _ => ?_)
theorem impl_PathRounds.mono : ∀ a0 a1 a2 a3 a4 k, LeO (impl_PathRounds.f k a0 a1 a2 a3 a4) (impl_PathRounds.f (k + 1) a0 a1 a2 a3 a4) := by
  intro a0 a1 a2 a3 a4 k
  obtain ⟨ih0, ih1⟩ := impl_PathRounds.mono_l k
  unfold impl_PathRounds.f
  repeat' first
      | (with_reducible exact ih0 _ _ _)
      | (with_reducible exact ih1 _ _ _ _)
      | (with_reducible exact impl_PathPerm.mono _ _ _ _ _)
      | (with_reducible exact LeO.refl _)
      | (with_reducible exact LeO.none _)
      | (with_reducible refine LeO.ite ?_ ?_)
      | (with_reducible refine LeO.bind ?_ (fun _ => ?_))
      | exact ih0 _ _ _
      | exact ih1 _ _ _ _
      | exact impl_PathPerm.mono _ _ _ _ _
      | exact LeO.none _
      | refine LeO.ite ?_ ?_
      | refine LeO.bind ?_ (fun _ => ?_)
set_option maxHeartbeats 8000000 in
set_option maxRecDepth 100000 in
theorem impl_PathRounds.calls (k : Nat) (A0_0 : Option Addr) (c0_0 : Nat) (l0_0 : List Int) (A0_1 : Option Addr) (c0_1 : Nat) (l0_1 : List Int) (a1 : Int) (a2 : Int) (a3 : Int) (r : Int) (w : World) (hr0_0 : Kd.C (Kd.int .i64) w A0_0 l0_0.length l0_0) (hc0_0 : l0_0.length ≤ c0_0) (hr0_1 : Kd.C (Kd.int .i64) w A0_1 l0_1.length l0_1) (hc0_1 : l0_1.length ≤ c0_1) (h : impl_PathRounds.f k l0_0 l0_1 a1 a2 a3 = some r) :
    Calls Try.prog 43 #[.agg #[.slice A0_0 l0_0.length c0_0, .slice A0_1 l0_1.length c0_1], .int .i64 a1, .int .i64 a2, .int .i64 a3] w fun e w' => e = .returned (.int .i64 r) ∧ Below w.heap.size w w' := by
  have hu27 := Try.underlying27
  have HR0_0 := Aside0.mk hr0_0
  have HC0_0 := Aside0.mk hc0_0
  clear hr0_0 hc0_0
  have HR0_1 := Aside0.mk hr0_1
  have HC0_1 := Aside0.mk hc0_1
  clear hr0_1 hc0_1
  have HB := Aside0.mk (Below.refl w.heap.size w)
  have H : ((impl_PathPerm.f k l0_0 l0_1 a2 a3).bind fun bt1013 => (if bt1013.2 = true then (if a1 < 0 then (impl_PathRounds.j0 k a1 bt1013.1 true) else (impl_PathRounds.j0 k a1 bt1013.1 (decide (a1 ≥ (bt1013.1.length : Int))))) else (impl_PathRounds.j0 k a1 bt1013.1 true))) = some r := h
  clear h
  replace H := Option.bind_eq_some_iff.mp H
  obtain ⟨⟨t1013, t1016⟩, A50, H⟩ := H
  replace H : (if t1016 = true then (if a1 < 0 then (impl_PathRounds.j0 k a1 t1013 true) else (impl_PathRounds.j0 k a1 t1013 (decide (a1 ≥ (t1013.length : Int))))) else (impl_PathRounds.j0 k a1 t1013 true)) = some r := H
  have A5 := Aside0.mk A50
  clear A50
  have HC6 := Aside0.mk H
  clear H
  go_enter Try.func43, Try.ntmps43
  go_upto_region 2 with (first | ((with_reducible refine gate_dst (N := 4) rfl ?_); (try (refine gate_guard (by rfl) ?_; dsimp only)); refine box_event ?hg (N := 4) ?hd (cs := #[.slice A0_0 l0_0.length c0_0, .slice A0_1 l0_1.length c0_1]) (t := 27) ?hr ?_; (case hd => rfl); (case hg => rfl); (case hr => first | (go_simp; done) | (go_simp; rfl)); intro gb1012 hg w7 hbox hb; have n0_ := Aside0.mk (below_step (by repeat (first | (with_reducible first | exact HB.out | apply below_alloc | apply pw_below_drewN | apply below_drew1) | exact HB.out)) hb); have n1_ := Aside0.mk (hbox); have n2_ := Aside0.mk ((by rw [hg]; exact (below_size (by repeat (first | (with_reducible first | exact HB.out | apply below_alloc | apply pw_below_drewN | apply below_drew1) | exact HB.out))) : w.heap.size ≤ gb1012)); have n3_ := Aside0.mk ((by rw [hg]; exact (below_size (by repeat (first | (with_reducible first | exact HB.out | apply below_alloc | apply pw_below_drewN | apply below_drew1) | exact HB.out))) : w.heap.size ≤ gb1012)); clear HB; have HB := n0_; have BK1012 := n1_; have GW1012 := n2_; have GE1012 := n3_; clear n0_ n1_ n2_ n3_; clear hb hbox hg; have hcz8_0 : w7.cell? ⟨gb1012, 0, none⟩ = some (.slice A0_0 l0_0.length c0_0) := (blk_cell BK1012.out 0).trans rfl; have hcz8_1 : w7.cell? ⟨gb1012, 1, none⟩ = some (.slice A0_1 l0_1.length c0_1) := (blk_cell BK1012.out 1).trans rfl; have hfz8_0 := blk_frozen BK1012.out 0; have hfz8_1 := blk_frozen BK1012.out 1) | ((with_reducible refine gate_callee (f := 52) rfl ?_); refine goesL_ (some 17) rfl rfl Try.func52 (by kernel_rfl) rfl #[.agg #[.slice A0_0 l0_0.length c0_0, .slice A0_1 l0_1.length c0_1], .int .i64 a2, .int .i64 a3] rfl (by (try simp only [List.map_toArray, List.map_cons, List.map_nil]); first | done | rfl | (simp only [List.length_drop, List.length_take]; rfl)) ?_; (with_reducible refine (impl_PathPerm.calls k _ _ l0_0 _ _ l0_1 a2 a3 t1013 t1016 _ ?side1 ?side2 ?side3 ?side4 A5.out).mono ?_); (case side1 => repeat (first | exact (Kd.C_below HR0_0.out HB.out) | (with_reducible refine Kd.C_alloc ?_ _) | (with_reducible refine Kd.C_drewN ?_ _) | (with_reducible refine Kd.C_drew ?_))); (case side2 => exact HC0_0.out); (case side3 => repeat (first | exact (Kd.C_below HR0_1.out HB.out) | (with_reducible refine Kd.C_alloc ?_ _) | (with_reducible refine Kd.C_drewN ?_ _) | (with_reducible refine Kd.C_drew ?_))); (case side4 => exact HC0_1.out); rintro e w9 ⟨v1014, rfl, ho0, hb⟩; refine ⟨_, rfl, ?_⟩; have n0_ := Aside0.mk (Kd.R_lower ho0 (below_size (by repeat (first | (with_reducible first | exact HB.out | apply below_alloc | apply pw_below_drewN | apply below_drew1 | refine below_set ?_ GE1012.out) | exact HB.out)))); have n1_ := Aside0.mk (blk_below (g := gb1012) (o := .cells #[.slice A0_0 l0_0.length c0_0, .slice A0_1 l0_1.length c0_1] 27 (0, 0)) (by (with_reducible repeat (first | refine blk_drewN ?_ _ | refine blk_drew ?_ | refine blk_alloc ?_ _)); exact BK1012.out) hb); have n2_ := Aside0.mk (below_step (by repeat (first | (with_reducible first | exact HB.out | apply below_alloc | apply pw_below_drewN | apply below_drew1 | refine below_set ?_ GE1012.out) | exact HB.out)) hb); clear BK1012; clear HB; have HO1015 := n0_; have BK1012 := n1_; have HB := n2_; clear n0_ n1_ n2_; (try clear hb); (try clear hb2); (try clear hk); (try clear hi); (try clear ho0)))
  (try simp only [Act.put, List.setIfInBounds_toArray, List.set_cons_zero, List.set_cons_succ])
  go_cut [31] (fun v31 wc => ∃ (kq : Nat) (x31_5 : Bool), v31 = .bool x31_5 ∧ Aside0 (impl_PathRounds.j0 kq a1 t1013 x31_5 = some r) ∧ Aside0 (kq ≤ k) ∧ Aside0 (Kd.R (Kd.int .i64) 3 wc w.heap.size (fun _ => True) v1014 t1013) ∧ Aside0 (wc.heap[gb1012]? = some (.cells #[(.slice A0_0 l0_0.length c0_0), (.slice A0_1 l0_1.length c0_1)] 27 (0, 0))) ∧ Aside0 (Below w.heap.size w wc))
  case first =>
    have H := HC6.out
    clear HC6
    by_cases c10 : t1016 = true
    · subst c10
      have H1 : (if a1 < 0 then (impl_PathRounds.j0 k a1 t1013 true) else (impl_PathRounds.j0 k a1 t1013 (decide (a1 ≥ (t1013.length : Int))))) = some r := by rw [if_pos rfl] at H; exact H
      clear H
      have H := H1
      clear H1
      by_cases c11 : a1 < 0
      · rw [if_pos c11] at H
        have c11b0 : decide (a1 < 0) = true := decide_eq_true c11
        clear c11
        (first | rw [c11b0] | (simp only [i64_w, i32_w]; rw [c11b0]) | skip)
        have H' := Aside0.mk H
        clear H
        go_wp2
        go_meet
        case rel => exact ⟨_, (true), (by first | rfl | (simp; done) | (simp [*]; done)), H', ⟨by first | omega | exact Nat.le_refl _⟩, ⟨by (with_reducible repeat (first | apply Kd.R_alloc | apply Kd.R_drewN | apply Kd.R_drew)); exact HO1015.out⟩, ⟨by (with_reducible repeat (first | refine blk_drewN ?_ _ | refine blk_drew ?_ | refine blk_alloc ?_ _)); exact BK1012.out⟩, ⟨by repeat (first | (with_reducible first | exact HB.out | apply below_alloc | apply pw_below_drewN | apply below_drew1 | refine below_set ?_ GE1012.out) | exact HB.out)⟩⟩
      · rw [if_neg c11] at H
        have c11b0 : decide (a1 < 0) = false := decide_eq_false c11
        clear c11
        (first | rw [c11b0] | (simp only [i64_w, i32_w]; rw [c11b0]) | skip)
        have H' := Aside0.mk H
        clear H
        obtain ⟨Ao12, co12, eo12⟩ := Kd.R_slice HO1015.out
        subst eo12
        go_wp2
        go_meet
        case rel => exact ⟨_, (decide (a1 ≥ (t1013.length : Int))), (by first | rfl | (simp; done) | (simp [*]; done)), H', ⟨by first | omega | exact Nat.le_refl _⟩, ⟨by (with_reducible repeat (first | apply Kd.R_alloc | apply Kd.R_drewN | apply Kd.R_drew)); exact HO1015.out⟩, ⟨by (with_reducible repeat (first | refine blk_drewN ?_ _ | refine blk_drew ?_ | refine blk_alloc ?_ _)); exact BK1012.out⟩, ⟨by repeat (first | (with_reducible first | exact HB.out | apply below_alloc | apply pw_below_drewN | apply below_drew1 | refine below_set ?_ GE1012.out) | exact HB.out)⟩⟩
    · replace c10 := Bool.eq_false_iff.mpr c10
      subst c10
      have H1 : (impl_PathRounds.j0 k a1 t1013 true) = some r := by rw [if_neg (show ¬ (false = true) by decide)] at H; exact H
      clear H
      have H := H1
      clear H1
      have H' := Aside0.mk H
      clear H
      go_wp2
      go_meet
      case rel => exact ⟨_, (true), (by first | rfl | (simp; done) | (simp [*]; done)), H', ⟨by first | omega | exact Nat.le_refl _⟩, ⟨by (with_reducible repeat (first | apply Kd.R_alloc | apply Kd.R_drewN | apply Kd.R_drew)); exact HO1015.out⟩, ⟨by (with_reducible repeat (first | refine blk_drewN ?_ _ | refine blk_drew ?_ | refine blk_alloc ?_ _)); exact BK1012.out⟩, ⟨by repeat (first | (with_reducible first | exact HB.out | apply below_alloc | apply pw_below_drewN | apply below_drew1 | refine below_set ?_ GE1012.out) | exact HB.out)⟩⟩
  case rest =>
    clear HC6
    try clear c1
    try clear p2
    try clear c4
    try clear c5
    try clear c10
    try clear c11
    try clear c11b0
    try clear hcz8_0
    try clear hcz8_1
    try clear hfz8_0
    try clear hfz8_1
    obtain ⟨kq, x31_5, rfl, HA, HJ5, HO_9, BK1012, HB⟩ := hcut
    cases kq with
    | zero => exact absurd HA.out (by simp [impl_PathRounds.j0])
    | succ kj5 =>
      have H := HA.out
      clear HA
      simp only [impl_PathRounds.j0] at H
      by_cases c13 : x31_5 = true
      · subst c13
        have H1 : (some 0) = some r := by rw [if_pos rfl] at H; exact H
        clear H
        have H := H1
        clear H1
        obtain rfl := Option.some.inj H
        go_wp2
        go_ret
        exact ⟨by first | rfl | (simp [errW_none, errW_some] <;> rfl) | (simp [*, errW_none, errW_some] <;> rfl), by repeat (first | (with_reducible first | exact HB.out | apply below_alloc | apply pw_below_drewN | apply below_drew1 | refine below_set ?_ GE1012.out) | exact HB.out)⟩
      · replace c13 := Bool.eq_false_iff.mpr c13
        subst c13
        have H1 : (if 0 ≤ a1 then (if a1 < (t1013.length : Int) then (impl_PathRounds.l0 kj5 a1 t1013 1 (rd t1013 a1)) else (none)) else (none)) = some r := by rw [if_neg (show ¬ (false = true) by decide)] at H; exact H
        clear H
        have H := H1
        clear H1
        by_cases c14 : 0 ≤ a1
        · rw [if_pos c14] at H
          have c14b0 : decide (0 ≤ a1) = true := decide_eq_true c14
          clear c14
          by_cases c15 : a1 < (t1013.length : Int)
          · rw [if_pos c15] at H
            have c15b0 : decide (a1 < (t1013.length : Int)) = true := decide_eq_true c15
            clear c15
            have H' := Aside0.mk H
            clear H
            obtain ⟨Ao16, co16, eo16⟩ := Kd.R_slice HO_9.out
            subst eo16
            have p1017 : 0 ≤ (a1 : Int) := of_decide_eq_true (by first | (with_reducible assumption) | assumption)
            have q1017 : a1 < (t1013.length : Int) := of_decide_eq_true (by first | (with_reducible assumption) | assumption)
            obtain ⟨ad1017, e1017, hx1017_0⟩ := Kd.at_int (Kd.R_reads' HO_9.out).2.2 a1 p1017 q1017
            cases e1017
            replace p1017 := eq_true p1017
            replace q1017 := eq_true q1017
            go_wp2
            go_loopg [11, 12] kj5 (fun kq v11 v12 w' => ∃ (x11_2 : Int) (x12_2 : Int), v11 = .int .i64 x11_2 ∧ v12 = .int .i64 x12_2 ∧ Aside0 (impl_PathRounds.l0 kq a1 t1013 x11_2 x12_2 = some r) ∧ Aside0 (kq ≤ kj5) ∧ Aside0 (Kd.R (Kd.int .i64) 3 w' w.heap.size (fun _ => True) (.slice (some ad1017) t1013.length co16) t1013) ∧ Aside0 (w'.heap[gb1012]? = some (.cells #[(.slice A0_0 l0_0.length c0_0), (.slice A0_1 l0_1.length c0_1)] 27 (0, 0))) ∧ Aside0 (Below w.heap.size w w'))
            case atStart => exact ⟨(1), (rd t1013 a1), (by first | rfl | (simp; done) | (simp [*]; done)), (by first | rfl | (simp; done) | (simp [*]; done)), H', ⟨Nat.le_refl _⟩, ⟨by (with_reducible repeat (first | apply Kd.R_alloc | apply Kd.R_drewN | apply Kd.R_drew)); exact HO_9.out⟩, ⟨by (with_reducible repeat (first | refine blk_drewN ?_ _ | refine blk_drew ?_ | refine blk_alloc ?_ _)); exact BK1012.out⟩, ⟨by repeat (first | (with_reducible first | exact HB.out | apply below_alloc | apply pw_below_drewN | apply below_drew1 | refine below_set ?_ GE1012.out) | exact HB.out)⟩⟩
            case round =>
              clear H'
              try clear c1
              try clear p1
              try clear q1
              try clear hx1
              try clear p2
              try clear c4
              try clear c5
              try clear c10
              try clear p10
              try clear q10
              try clear hx10
              try clear c11
              try clear c11b0
              try clear c13
              try clear c14
              try clear c14b0
              try clear c15
              try clear c15b0
              try clear hcz8_0
              try clear hcz8_1
              try clear hfz8_0
              try clear hfz8_1
              try clear hx1017_0
              try clear p1017
              try clear p2
              try clear q1017
              obtain ⟨x11_2, x12_2, rfl, rfl, HA, HK2, HO_9, BK1012, HB⟩ := hrel
              cases gk with
              | zero => exact absurd HA.out (by simp [impl_PathRounds.l0])
              | succ k2 =>
                have H := HA.out
                clear HA
                simp only [impl_PathRounds.l0] at H
                by_cases c17 : x12_2 = a1
                · rw [if_pos c17] at H
                  have c17b0 : (x12_2 == a1) = true := beq_iff_eq.mpr c17
                  have c17b1 : (x12_2 != a1) = false := bne_eq_false_iff_eq.mpr c17
                  clear c17
                  obtain rfl := Option.some.inj H
                  go_wp2
                  go_ret
                  exact ⟨by first | rfl | (simp [errW_none, errW_some] <;> rfl) | (simp [*, errW_none, errW_some] <;> rfl), by repeat (first | (with_reducible first | exact HB.out | apply below_alloc | apply pw_below_drewN | apply below_drew1 | refine below_set ?_ GE1012.out) | exact HB.out)⟩
                · rw [if_neg c17] at H
                  have c17b0 : (x12_2 == a1) = false := beq_eq_false_iff_ne.mpr c17
                  have c17b1 : (x12_2 != a1) = true := bne_iff_ne.mpr c17
                  by_cases c18 : 0 ≤ x12_2
                  · rw [if_pos c18] at H
                    have c18b0 : decide (0 ≤ x12_2) = true := decide_eq_true c18
                    clear c18
                    by_cases c19 : x12_2 < (t1013.length : Int)
                    · rw [if_pos c19] at H
                      have c19b0 : decide (x12_2 < (t1013.length : Int)) = true := decide_eq_true c19
                      clear c19
                      have H' := Aside0.mk H
                      clear H
                      have p1018 : 0 ≤ (x12_2 : Int) := of_decide_eq_true (by first | (with_reducible assumption) | assumption)
                      have q1018 : x12_2 < (t1013.length : Int) := of_decide_eq_true (by first | (with_reducible assumption) | assumption)
                      obtain ⟨ad1018, e1018, hx1018_0⟩ := Kd.at_int (Kd.R_reads' HO_9.out).2.2 x12_2 p1018 q1018
                      obtain rfl : ad1017 = ad1018 := (by injection e1018)
                      replace p1018 := eq_true p1018
                      replace q1018 := eq_true q1018
                      go_wp2
                      go_roundg k2
                      case measure => have := HJ5.out; have := HK2.out; omega
                      case rel => exact ⟨(wrap64 (x11_2 + 1)), (rd t1013 x12_2), (by first | rfl | (simp; done) | (simp [*]; done)), (by first | rfl | (simp; done) | (simp [*]; done)), H', ⟨by have := HJ5.out; have := HK2.out; omega⟩, ⟨by (with_reducible repeat (first | apply Kd.R_alloc | apply Kd.R_drewN | apply Kd.R_drew)); exact HO_9.out⟩, ⟨by (with_reducible repeat (first | refine blk_drewN ?_ _ | refine blk_drew ?_ | refine blk_alloc ?_ _)); exact BK1012.out⟩, ⟨by repeat (first | (with_reducible first | exact HB.out | apply below_alloc | apply pw_below_drewN | apply below_drew1 | refine below_set ?_ GE1012.out) | exact HB.out)⟩⟩
                    · rw [if_neg c19] at H
                      exact absurd H (by simp)
                  · rw [if_neg c18] at H
                    exact absurd H (by simp)
          · rw [if_neg c15] at H
            exact absurd H (by simp)
        · rw [if_neg c14] at H
          exact absurd H (by simp)
end Go.Proofs.Ytbdnellgioimbaa.A
end
section
namespace Go.Proofs.Ytbdnellgioimbaa.A
open Go.RowKit Go.Proofs.YtbdnellgioimbaaW.PrintWords Go.Proofs.YtbdnellgioimbaaW.PrintLast Go.Proofs.YtbdnellgioimbaaW.PrintMore
attribute [local go_sem] max2_int min2_int max_two min_two max_three min_three max_four min_four
set_option linter.unusedVariables false
set_option linter.unusedSimpArgs false
def strings_Repeat.lays_ren : Go.Shelf.Ren := ⟨fun | 105 => 82 | 212 => 122 | 99 => 123 | 165 => 124 | 166 => 125 | 170 => 126 | 169 => 127 | 263 => 146 | 264 => 147 | 206 => 148 | 240 => 149 | 241 => 150 | 276 => 156 | 277 => 157 | n => n, fun | 9 => 9 | 3 => 3 | 4 => 4 | 20 => 20 | 0 => 0 | 46 => 109 | 109 => 110 | 5 => 5 | 72 => 115 | 76 => 119 | 51 => 132 | 146 => 133 | 53 => 135 | 148 => 136 | 70 => 113 | 37 => 38 | 75 => 118 | 127 => 138 | 164 => 139 | 80 => 122 | n => n, fun | n => n⟩
theorem strings_Repeat.lays : Go.Proofs.Lays.n105 Try.prog strings_Repeat.lays_ren := {
  mixed := by kernel_rfl
  f99 := Try.func123.trans (congrArg some (by kernel_rfl))
  f105 := Try.func82.trans (congrArg some (by kernel_rfl))
  f165 := Try.func124.trans (congrArg some (by kernel_rfl))
  f166 := Try.func125.trans (congrArg some (by kernel_rfl))
  f169 := Try.func127.trans (congrArg some (by kernel_rfl))
  f170 := Try.func126.trans (congrArg some (by kernel_rfl))
  f206 := Try.func148.trans (congrArg some (by kernel_rfl))
  f212 := Try.func122.trans (congrArg some (by kernel_rfl))
  f240 := Try.func149.trans (congrArg some (by kernel_rfl))
  f241 := Try.func150.trans (congrArg some (by kernel_rfl))
  f263 := Try.func146.trans (congrArg some (by kernel_rfl))
  f264 := Try.func147.trans (congrArg some (by kernel_rfl))
  f276 := Try.func156.trans (congrArg some (by kernel_rfl))
  f277 := Try.func157.trans (congrArg some (by kernel_rfl))
  t0 := Try.underlying0
  a0 := Try.isAgg0
  z0 := Try.sizeOf0
  v0 := Try.zeroValue0
  t3 := Try.underlying3
  a3 := Try.isAgg3
  z3 := Try.sizeOf3
  v3 := Try.zeroValue3
  t4 := Try.underlying4
  a4 := Try.isAgg4
  z4 := Try.sizeOf4
  v4 := Try.zeroValue4
  t5 := Try.underlying5
  a5 := Try.isAgg5
  z5 := Try.sizeOf5
  v5 := Try.zeroValue5
  t9 := Try.underlying9
  a9 := Try.isAgg9
  z9 := Try.sizeOf9
  v9 := Try.zeroValue9
  t20 := Try.underlying20
  a20 := Try.isAgg20
  z20 := Try.sizeOf20
  v20 := Try.zeroValue20
  t37 := Try.underlying38
  a37 := Try.isAgg38
  z37 := Try.sizeOf38
  v37 := Try.zeroValue38
  t46 := Try.underlying109
  a46 := Try.isAgg109
  z46 := Try.sizeOf109
  v46 := Try.zeroValue109
  t51 := Try.underlying132
  a51 := Try.isAgg132
  z51 := Try.sizeOf132
  v51 := Try.zeroValue132
  t53 := Try.underlying135
  a53 := Try.isAgg135
  z53 := Try.sizeOf135
  v53 := Try.zeroValue135
  t70 := Try.underlying113
  a70 := Try.isAgg113
  z70 := Try.sizeOf113
  v70 := Try.zeroValue113
  t72 := Try.underlying115
  a72 := Try.isAgg115
  z72 := Try.sizeOf115
  v72 := Try.zeroValue115
  t75 := Try.underlying118
  a75 := Try.isAgg118
  z75 := Try.sizeOf118
  v75 := Try.zeroValue118
  t76 := Try.underlying119
  a76 := Try.isAgg119
  z76 := Try.sizeOf119
  v76 := Try.zeroValue119
  t109 := Try.underlying110
  a109 := Try.isAgg110
  z109 := Try.sizeOf110
  v109 := Try.zeroValue110
  t127 := Try.underlying138
  a127 := Try.isAgg138
  z127 := Try.sizeOf138
  v127 := Try.zeroValue138
  t146 := Try.underlying133
  a146 := Try.isAgg133
  z146 := Try.sizeOf133
  v146 := Try.zeroValue133
  t148 := Try.underlying136
  a148 := Try.isAgg136
  z148 := Try.sizeOf136
  v148 := Try.zeroValue136
  t164 := Try.underlying139
  a164 := Try.isAgg139
  z164 := Try.sizeOf139
  v164 := Try.zeroValue139 }
theorem strings_Repeat.extra : Go.Proofs.Builder.Extra Try.prog strings_Repeat.lays_ren := {
  sizeBuilder := by kernel_rfl
  liesBuilder := by kernel_rfl
  t5 := Try.underlying5
  a5 := Try.isAgg5
  z5 := Try.sizeOf5
  v5 := Try.zeroValue5
  infoByte := by kernel_rfl
  cellsByte := by kernel_rfl
  sizeByte := by kernel_rfl
  neB5 := by decide }
def strings_Repeat.f (s : ByteArray) (c : Int) : Option ByteArray := if 0 ≤ c then (if c ≤ 9223372036854775807 then (if s.size * c.toNat ≤ 140737488355328 then some ⟨(Lib.repeatL s.data.toList c.toNat).toArray⟩ else none) else none) else none
set_option maxHeartbeats 8000000 in
set_option maxRecDepth 100000 in
theorem strings_Repeat.calls (a0 : ByteArray) (a1 : Int) (r : ByteArray) (w : World) (h : strings_Repeat.f a0 a1 = some r) :
    Calls Try.prog 82 #[.string a0, .int .i64 a1] w fun e w' => e = .returned (.string r) ∧ Below w.heap.size w w' := by
  unfold strings_Repeat.f at h
  split at h
  · rename_i h1
    split at h
    · rename_i h2
      split at h
      · rename_i h3
        obtain rfl := Option.some.inj h
        have e : a1 = ((a1.toNat : Nat) : Int) := by omega
        generalize a1.toNat = c at e h3
        subst e
        exact Any.strings_Repeat strings_Repeat.lays strings_Repeat.extra a0 c w (by omega) h3
      · cases h
    · cases h
  · cases h
end Go.Proofs.Ytbdnellgioimbaa.A
end
section
namespace Go.Proofs.Ytbdnellgioimbaa.A
open Go.RowKit Go.Proofs.YtbdnellgioimbaaW.PrintWords Go.Proofs.YtbdnellgioimbaaW.PrintLast Go.Proofs.YtbdnellgioimbaaW.PrintMore
attribute [local go_sem] max2_int min2_int max_two min_two max_three min_three max_four min_four
set_option linter.unusedVariables false
set_option linter.unusedSimpArgs false
def impl_PathText.f (k : Nat) (l0_0 : List Int) (l0_1 : List Int) (a1 : Int) (a2 : Int) (a3 : Int) : Option (ByteArray) := (impl_SlopeWord.f k a2 a3).bind fun t1023 => ((impl_PathRounds.f k l0_0 l0_1 a1 a2 a3).bind fun t1024 => ((strings_Repeat.f t1023 t1024).bind fun t1025 => (some t1025)))
theorem impl_PathText.mono : ∀ a0 a1 a2 a3 a4 k, LeO (impl_PathText.f k a0 a1 a2 a3 a4) (impl_PathText.f (k + 1) a0 a1 a2 a3 a4) := by
  intro a0 a1 a2 a3 a4 k
  unfold impl_PathText.f
  repeat' first
      | (with_reducible exact impl_PathRounds.mono _ _ _ _ _ _)
      | (with_reducible exact impl_SlopeWord.mono _ _ _)
      | (with_reducible exact LeO.refl _)
      | (with_reducible exact LeO.none _)
      | (with_reducible refine LeO.ite ?_ ?_)
      | (with_reducible refine LeO.bind ?_ (fun _ => ?_))
      | exact impl_PathRounds.mono _ _ _ _ _ _
      | exact impl_SlopeWord.mono _ _ _
      | exact LeO.none _
      | refine LeO.ite ?_ ?_
      | refine LeO.bind ?_ (fun _ => ?_)
def impl_PathText.T1 : Bool × List (List Nat × List Nat) := (true, [([], []), ([], []), ([0, 1], [0, 1]), ([], []), ([], []), ([], []), ([], []), ([3, 4, 5, 6, 2], [3, 4, 5, 6]), ([2, 7, 7], [2, 7]), ([8, 8, 0, 1, 2, 3, 4, 5, 6, 7, 8], [8])])
def impl_PathText.B1 : List Nat := [0, 0, 3, 0, 0, 0, 0, 127, 255, 511]
theorem impl_PathText.tab1 : rtab .any (opsOf Try.f33 1) = impl_PathText.T1 := by kernel_rfl
theorem impl_PathText.bits1 : waitsOk impl_PathText.T1.2 impl_PathText.B1 = true := by kernel_rfl
set_option maxHeartbeats 8000000 in
set_option maxRecDepth 100000 in
theorem impl_PathText.calls (k : Nat) (A0_0 : Option Addr) (c0_0 : Nat) (l0_0 : List Int) (A0_1 : Option Addr) (c0_1 : Nat) (l0_1 : List Int) (a1 : Int) (a2 : Int) (a3 : Int) (r : ByteArray) (w : World) (hr0_0 : Kd.C (Kd.int .i64) w A0_0 l0_0.length l0_0) (hc0_0 : l0_0.length ≤ c0_0) (hr0_1 : Kd.C (Kd.int .i64) w A0_1 l0_1.length l0_1) (hc0_1 : l0_1.length ≤ c0_1) (h : impl_PathText.f k l0_0 l0_1 a1 a2 a3 = some r) :
    Calls Try.prog 33 #[.agg #[.slice A0_0 l0_0.length c0_0, .slice A0_1 l0_1.length c0_1], .int .i64 a1, .int .i64 a2, .int .i64 a3] w fun e w' => e = .returned (.string r) ∧ Below w.heap.size w w' := by
  have hu27 := Try.underlying27
  have HR0_0 := Aside0.mk hr0_0
  have HC0_0 := Aside0.mk hc0_0
  clear hr0_0 hc0_0
  have HR0_1 := Aside0.mk hr0_1
  have HC0_1 := Aside0.mk hc0_1
  clear hr0_1 hc0_1
  have HB := Aside0.mk (Below.refl w.heap.size w)
  have H : ((impl_SlopeWord.f k a2 a3).bind fun t1023 => ((impl_PathRounds.f k l0_0 l0_1 a1 a2 a3).bind fun t1024 => ((strings_Repeat.f t1023 t1024).bind fun t1025 => (some t1025)))) = some r := h
  clear h
  replace H := Option.bind_eq_some_iff.mp H
  obtain ⟨t1023, A50, H⟩ := H
  replace H : ((impl_PathRounds.f k l0_0 l0_1 a1 a2 a3).bind fun t1024 => ((strings_Repeat.f t1023 t1024).bind fun t1025 => (some t1025))) = some r := H
  have A5 := Aside0.mk A50
  clear A50
  replace H := Option.bind_eq_some_iff.mp H
  obtain ⟨t1024, A60, H⟩ := H
  replace H : ((strings_Repeat.f t1023 t1024).bind fun t1025 => (some t1025)) = some r := H
  have A6 := Aside0.mk A60
  clear A60
  replace H := Option.bind_eq_some_iff.mp H
  obtain ⟨t1025, A70, H⟩ := H
  replace H : (some t1025) = some r := H
  have A7 := Aside0.mk A70
  clear A70
  obtain rfl := Option.some.inj H
  go_enter Try.func33, Try.ntmps33
  try go_wp2_with (first | ((with_reducible refine gate_dst (N := 4) rfl ?_); refine box_event ?hg (N := 4) ?hd (cs := #[.slice A0_0 l0_0.length c0_0, .slice A0_1 l0_1.length c0_1]) (t := 27) ?hr ?_; (case hd => rfl); (case hg => rfl); (case hr => first | (go_simp; done) | (go_simp; rfl)); intro gb1022 hg w8 hbox hb; have n0_ := Aside0.mk (below_step (by repeat (first | (with_reducible first | exact HB.out | apply below_alloc | apply pw_below_drewN | apply below_drew1) | exact HB.out)) hb); have n1_ := Aside0.mk (hbox); have n2_ := Aside0.mk ((by rw [hg]; exact (below_size (by repeat (first | (with_reducible first | exact HB.out | apply below_alloc | apply pw_below_drewN | apply below_drew1) | exact HB.out))) : w.heap.size ≤ gb1022)); have n3_ := Aside0.mk ((by rw [hg]; exact (below_size (by repeat (first | (with_reducible first | exact HB.out | apply below_alloc | apply pw_below_drewN | apply below_drew1) | exact HB.out))) : w.heap.size ≤ gb1022)); clear HB; have HB := n0_; have BK1022 := n1_; have GW1022 := n2_; have GE1022 := n3_; clear n0_ n1_ n2_ n3_; clear hb hbox hg))
  have n0_ := Aside0.mk (blk_drew BK1022.out)
  have n1_ := Aside0.mk (below_drew1 HB.out)
  clear BK1022
  clear HB
  have BK1022 := n0_
  have HB := n1_
  clear n0_ n1_
  refine start_ (n := 10) (S := fun w' => w'.cell? ⟨gb1022, 0, none⟩ = some (.slice A0_0 l0_0.length c0_0) ∧ w'.cell? ⟨gb1022, 1, none⟩ = some (.slice A0_1 l0_1.length c0_1)) (ds := []) #[false, false, false, false, false, false, false, false, false, false] (by kernel_rfl) rfl rfl ⟨(blk_cell BK1022.out 0).trans rfl, (blk_cell BK1022.out 1).trans rfl⟩ (fun hHeld => ?_); refine with_tabW impl_PathText.tab1 impl_PathText.bits1 (fun HT_ HW_ => ?_)
  generalize w8.drew = w9 at BK1022 HB hHeld ⊢
  refine pure_ (i := 0) (N := some 9) (v := ?_) (a' := ?_) #[true, false, false, false, false, false, false, false, false, false] rfl rfl (any_of HT_.out (by kernel_rfl)) (fun _ _ _ h => h) (Or.inl ⟨by rfl, ?_⟩) ?_ ?_
  rotate_left
  · intro w'
    go_simp
    with_reducible rfl
  rotate_left
  · simp only [Act.put, List.setIfInBounds_toArray, List.set_cons_zero, List.set_cons_succ, i64_w, i32_w]
    rfl
  refine pure_ (i := 1) (N := some 10) (v := ?_) (a' := ?_) #[true, true, false, false, false, false, false, false, false, false] rfl rfl (any_of HT_.out (by kernel_rfl)) (fun _ _ _ h => h) (Or.inl ⟨by rfl, ?_⟩) ?_ ?_
  rotate_left
  · intro w'
    go_simp
    with_reducible rfl
  rotate_left
  · simp only [Act.put, List.setIfInBounds_toArray, List.set_cons_zero, List.set_cons_succ, i64_w, i32_w]
    rfl
  refine pure_ (i := 4) (N := some 13) (v := ?_) (a' := ?_) #[true, true, false, false, true, false, false, false, false, false] rfl rfl (any_of HT_.out (by kernel_rfl)) (fun _ _ _ h => h) (Or.inl ⟨by rfl, ?_⟩) ?_ ?_
  rotate_left
  · intro w'
    go_simp
    with_reducible rfl
  rotate_left
  · simp only [Act.put, List.setIfInBounds_toArray, List.set_cons_zero, List.set_cons_succ, i64_w, i32_w]
    rfl
  refine pure_ (i := 5) (N := some 14) (v := ?_) (a' := ?_) #[true, true, false, false, true, true, false, false, false, false] rfl rfl (any_of HT_.out (by kernel_rfl)) (fun _ _ _ h => h) (Or.inl ⟨by rfl, ?_⟩) ?_ ?_
  rotate_left
  · intro w'
    go_simp
    with_reducible rfl
  rotate_left
  · simp only [Act.put, List.setIfInBounds_toArray, List.set_cons_zero, List.set_cons_succ, i64_w, i32_w]
    rfl
  refine pure_ (i := 6) (N := some 15) (v := ?_) (a' := ?_) #[true, true, false, false, true, true, true, false, false, false] rfl rfl (any_of HT_.out (by kernel_rfl)) (fun _ _ _ h => h) (Or.inl ⟨by rfl, ?_⟩) ?_ ?_
  rotate_left
  · intro w'
    go_simp
    with_reducible rfl
  rotate_left
  · simp only [Act.put, List.setIfInBounds_toArray, List.set_cons_zero, List.set_cons_succ, i64_w, i32_w]
    rfl
  refine take_ (i := 3) (N := some 12) (v := ?_) (a' := ?_) #[true, true, false, true, true, true, true, false, false, false] rfl rfl (take_ofW HT_.out HW_.out (by kernel_rfl)) (fun _ _ _ h => h) (Or.inl ⟨by rfl, ?_⟩) hHeld ?_ ?_
  rotate_left
  · rintro w' ⟨s0, s1⟩
    go_simp
    with_reducible rfl
  rotate_left
  · simp only [Act.put, List.setIfInBounds_toArray, List.set_cons_zero, List.set_cons_succ, i64_w, i32_w]
    rfl
  refine one_ (i := 2) (N := some 11) #[true, true, true, true, true, true, true, false, false, false] rfl rfl (one_of HT_.out (by kernel_rfl)) (by decide) (fun K hK => ?_)
  refine goes_ Try.func83 (by kernel_rfl) rfl #[.int .i64 a2, .int .i64 a3] (by rfl) rfl rfl (by (try simp only [List.map_toArray, List.map_cons, List.map_nil]); first | done | rfl | (simp only [List.length_drop, List.length_take]; rfl)) ?_
  with_reducible refine (impl_SlopeWord.calls k a2 a3 t1023 _ A5.out).mono ?_
  rintro e w10 ⟨rfl, hb⟩
  refine ⟨_, rfl, ?_⟩
  have n0_ := Aside0.mk (blk_below (g := gb1022) (o := .cells #[.slice A0_0 l0_0.length c0_0, .slice A0_1 l0_1.length c0_1] 27 (0, 0)) (by (with_reducible repeat (first | refine blk_drewN ?_ _ | refine blk_drew ?_ | refine blk_alloc ?_ _)); exact BK1022.out) hb)
  have n1_ := Aside0.mk (below_step (by repeat (first | (with_reducible first | exact HB.out | apply below_alloc | apply pw_below_drewN | apply below_drew1 | refine below_set ?_ GE1022.out) | exact HB.out)) hb)
  clear BK1022
  clear HB
  have BK1022 := n0_
  have HB := n1_
  clear n0_ n1_
  (try clear hb)
  (try clear hb2)
  (try clear hk)
  (try clear hi)
  refine hK.out _ _ ⟨(blk_cell BK1022.out 0).trans rfl, (blk_cell BK1022.out 1).trans rfl⟩ (fun hHeld => ?_)
  clear hK K
  refine norm_ (a' := ?_) ?_ ?_
  rotate_left
  · show Act.put _ (some 11) _ = _
    simp only [Act.put, List.setIfInBounds_toArray, List.set_cons_zero, List.set_cons_succ, i64_w, i32_w]
    rfl
  refine one_ (i := 7) (N := some 16) #[true, true, true, true, true, true, true, true, false, false] rfl rfl (one_of HT_.out (by kernel_rfl)) (by decide) (fun K hK => ?_)
  refine goes_ Try.func43 (by kernel_rfl) rfl #[.agg #[.slice A0_0 l0_0.length c0_0, .slice A0_1 l0_1.length c0_1], .int .i64 a1, .int .i64 a2, .int .i64 a3] (by rfl) rfl rfl (by (try simp only [List.map_toArray, List.map_cons, List.map_nil]); first | done | rfl | (simp only [List.length_drop, List.length_take]; rfl)) ?_
  with_reducible refine (impl_PathRounds.calls k _ _ l0_0 _ _ l0_1 a1 a2 a3 t1024 _ ?side1 ?side2 ?side3 ?side4 A6.out).mono ?_
  (case side1 => repeat (first | exact (Kd.C_below HR0_0.out HB.out) | (with_reducible refine Kd.C_alloc ?_ _) | (with_reducible refine Kd.C_drewN ?_ _) | (with_reducible refine Kd.C_drew ?_)))
  (case side2 => exact HC0_0.out)
  (case side3 => repeat (first | exact (Kd.C_below HR0_1.out HB.out) | (with_reducible refine Kd.C_alloc ?_ _) | (with_reducible refine Kd.C_drewN ?_ _) | (with_reducible refine Kd.C_drew ?_)))
  (case side4 => exact HC0_1.out)
  rintro e w11 ⟨rfl, hb⟩
  refine ⟨_, rfl, ?_⟩
  have n0_ := Aside0.mk (blk_below (g := gb1022) (o := .cells #[.slice A0_0 l0_0.length c0_0, .slice A0_1 l0_1.length c0_1] 27 (0, 0)) (by (with_reducible repeat (first | refine blk_drewN ?_ _ | refine blk_drew ?_ | refine blk_alloc ?_ _)); exact BK1022.out) hb)
  have n1_ := Aside0.mk (below_step (by repeat (first | (with_reducible first | exact HB.out | apply below_alloc | apply pw_below_drewN | apply below_drew1 | refine below_set ?_ GE1022.out) | exact HB.out)) hb)
  clear BK1022
  clear HB
  have BK1022 := n0_
  have HB := n1_
  clear n0_ n1_
  (try clear hb)
  (try clear hb2)
  (try clear hk)
  (try clear hi)
  refine hK.out _ _ ⟨(blk_cell BK1022.out 0).trans rfl, (blk_cell BK1022.out 1).trans rfl⟩ (fun hHeld => ?_)
  clear hK K
  refine norm_ (a' := ?_) ?_ ?_
  rotate_left
  · show Act.put _ (some 16) _ = _
    simp only [Act.put, List.setIfInBounds_toArray, List.set_cons_zero, List.set_cons_succ, i64_w, i32_w]
    rfl
  refine one_ (i := 8) (N := some 17) #[true, true, true, true, true, true, true, true, true, false] rfl rfl (one_of HT_.out (by kernel_rfl)) (by decide) (fun K hK => ?_)
  refine goes_ Try.func82 (by kernel_rfl) rfl #[.string t1023, .int .i64 t1024] (by rfl) rfl rfl (by (try simp only [List.map_toArray, List.map_cons, List.map_nil]); first | done | rfl | (simp only [List.length_drop, List.length_take]; rfl)) ?_
  with_reducible refine (strings_Repeat.calls t1023 t1024 t1025 _ A7.out).mono ?_
  rintro e w12 ⟨rfl, hb⟩
  refine ⟨_, rfl, ?_⟩
  have n0_ := Aside0.mk (blk_below (g := gb1022) (o := .cells #[.slice A0_0 l0_0.length c0_0, .slice A0_1 l0_1.length c0_1] 27 (0, 0)) (by (with_reducible repeat (first | refine blk_drewN ?_ _ | refine blk_drew ?_ | refine blk_alloc ?_ _)); exact BK1022.out) hb)
  have n1_ := Aside0.mk (below_step (by repeat (first | (with_reducible first | exact HB.out | apply below_alloc | apply pw_below_drewN | apply below_drew1 | refine below_set ?_ GE1022.out) | exact HB.out)) hb)
  clear BK1022
  clear HB
  have BK1022 := n0_
  have HB := n1_
  clear n0_ n1_
  (try clear hb)
  (try clear hb2)
  (try clear hk)
  (try clear hi)
  refine hK.out _ _ ⟨(blk_cell BK1022.out 0).trans rfl, (blk_cell BK1022.out 1).trans rfl⟩ (fun hHeld => ?_)
  clear hK K
  refine norm_ (a' := ?_) ?_ ?_
  rotate_left
  · show Act.put _ (some 17) _ = _
    simp only [Act.put, List.setIfInBounds_toArray, List.set_cons_zero, List.set_cons_succ, i64_w, i32_w]
    rfl
  refine pure_ (i := 9) (N := some 8) (v := ?_) (a' := ?_) #[true, true, true, true, true, true, true, true, true, true] rfl rfl (any_of HT_.out (by kernel_rfl)) (fun _ _ _ h => h) (Or.inl ⟨by rfl, ?_⟩) ?_ ?_
  rotate_left
  · intro w'
    go_simp
    with_reducible rfl
  rotate_left
  · simp only [Act.put, List.setIfInBounds_toArray, List.set_cons_zero, List.set_cons_succ, i64_w, i32_w]
    rfl
  refine done_ (done_of HT_.out (by kernel_rfl)) ?_
  try go_wp2
  go_ret
  exact ⟨by first | rfl | (simp [errW_none, errW_some] <;> rfl) | (simp [*, errW_none, errW_some] <;> rfl), by repeat (first | (with_reducible first | exact HB.out | apply below_alloc | apply pw_below_drewN | apply below_drew1 | refine below_set ?_ GE1022.out) | exact HB.out)⟩
end Go.Proofs.Ytbdnellgioimbaa.A
end
section
namespace Go.Proofs.Ytbdnellgioimbaa.A
open Go.RowKit Go.Proofs.YtbdnellgioimbaaW.PrintWords Go.Proofs.YtbdnellgioimbaaW.PrintLast Go.Proofs.YtbdnellgioimbaaW.PrintMore
attribute [local go_sem] max2_int min2_int max_two min_two max_three min_three max_four min_four
set_option linter.unusedVariables false
set_option linter.unusedSimpArgs false
def impl_PathSquares.l0 : Nat → Int → ByteArray → List Int → Int → List Int → List Int → Option (List Int × Bool)
  | 0, _, _, _, _, _, _ => none
  | k + 1, x1, x10, x11, x12, x1063000, x1063001 => if x12 < (x10.size : Int) then (if x11.length < 17592186044416 then (if 0 ≤ x12 then ((impl_stepSquare.f x1063000 x1063001 x1 (bt x10 x12)).bind fun t1070 => (impl_PathSquares.l0 k t1070 x10 (x11 ++ [x1]) (wrap64 (x12 + 1)) x1063000 x1063001)) else (none)) else (none)) else (some (x11, true))
def impl_PathSquares.f (k : Nat) (l0_0 : List Int) (l0_1 : List Int) (a1 : Int) (a2 : Int) (a3 : Int) : Option (List Int × Bool) := (impl_PathText.f k l0_0 l0_1 a1 a2 a3).bind fun t1063 => (if t1063.toList = ([] : List UInt8) then (some (([] : List Int), false)) else (impl_PathSquares.l0 k a1 t1063 (([] : List Int)) 0 l0_0 l0_1))
theorem impl_PathSquares.mono_l : ∀ k, (∀ y0 y1 y2 y3 y4 y5, LeO (impl_PathSquares.l0 k y0 y1 y2 y3 y4 y5) (impl_PathSquares.l0 (k + 1) y0 y1 y2 y3 y4 y5))
  | 0 => fun _ _ _ _ _ _ r h => by simp [impl_PathSquares.l0] at h
  | k + 1 => by
    have ih0 := impl_PathSquares.mono_l k
    · intro y0 y1 y2 y3 y4 y5
      unfold impl_PathSquares.l0
      repeat' first
      | (with_reducible exact ih0 _ _ _ _ _ _)
      | (with_reducible exact impl_PathText.mono _ _ _ _ _ _)
      | (with_reducible exact LeO.refl _)
      | (with_reducible exact LeO.none _)
      | (with_reducible refine LeO.ite ?_ ?_)
      | (with_reducible refine LeO.bind ?_ (fun _ => ?_))
      | exact ih0 _ _ _ _ _ _
      | exact impl_PathText.mono _ _ _ _ _ _
      | exact LeO.none _
      | refine LeO.ite ?_ ?_
      | refine LeO.bind ?_ (fun _ => ?_)
theorem impl_PathSquares.mono : ∀ a0 a1 a2 a3 a4 k, LeO (impl_PathSquares.f k a0 a1 a2 a3 a4) (impl_PathSquares.f (k + 1) a0 a1 a2 a3 a4) := by
  intro a0 a1 a2 a3 a4 k
  have ih0 := impl_PathSquares.mono_l k
  unfold impl_PathSquares.f
  repeat' first
      | (with_reducible exact ih0 _ _ _ _ _ _)
      | (with_reducible exact impl_PathText.mono _ _ _ _ _ _)
      | (with_reducible exact LeO.refl _)
      | (with_reducible exact LeO.none _)
      | (with_reducible refine LeO.ite ?_ ?_)
      | (with_reducible refine LeO.bind ?_ (fun _ => ?_))
      | exact ih0 _ _ _ _ _ _
      | exact impl_PathText.mono _ _ _ _ _ _
      | exact LeO.none _
      | refine LeO.ite ?_ ?_
      | refine LeO.bind ?_ (fun _ => ?_)
set_option maxHeartbeats 8000000 in
set_option maxRecDepth 100000 in
theorem impl_PathSquares.calls (k : Nat) (A0_0 : Option Addr) (c0_0 : Nat) (l0_0 : List Int) (A0_1 : Option Addr) (c0_1 : Nat) (l0_1 : List Int) (a1 : Int) (a2 : Int) (a3 : Int) (r1 : List Int) (r2 : Bool) (w : World) (hr0_0 : Kd.C (Kd.int .i64) w A0_0 l0_0.length l0_0) (hc0_0 : l0_0.length ≤ c0_0) (hr0_1 : Kd.C (Kd.int .i64) w A0_1 l0_1.length l0_1) (hc0_1 : l0_1.length ≤ c0_1) (h : impl_PathSquares.f k l0_0 l0_1 a1 a2 a3 = some (r1, r2)) :
    Calls Try.prog 35 #[.agg #[.slice A0_0 l0_0.length c0_0, .slice A0_1 l0_1.length c0_1], .int .i64 a1, .int .i64 a2, .int .i64 a3] w fun e w' => ∃ v0_ : Value, e = .returned (.tuple #[v0_, .bool r2]) ∧ Kd.R (Kd.int .i64) 3 w' w.heap.size (fun _ => True) v0_ r1 ∧ Below w.heap.size w w' := by
  have hu27 := Try.underlying27
  have HR0_0 := Aside0.mk hr0_0
  have HC0_0 := Aside0.mk hc0_0
  clear hr0_0 hc0_0
  have HR0_1 := Aside0.mk hr0_1
  have HC0_1 := Aside0.mk hc0_1
  clear hr0_1 hc0_1
  have HB := Aside0.mk (Below.refl w.heap.size w)
  have H : ((impl_PathText.f k l0_0 l0_1 a1 a2 a3).bind fun t1063 => (if t1063.toList = ([] : List UInt8) then (some (([] : List Int), false)) else (impl_PathSquares.l0 k a1 t1063 (([] : List Int)) 0 l0_0 l0_1))) = some (r1, r2) := h
  clear h
  replace H := Option.bind_eq_some_iff.mp H
  obtain ⟨t1063, A50, H⟩ := H
  replace H : (if t1063.toList = ([] : List UInt8) then (some (([] : List Int), false)) else (impl_PathSquares.l0 k a1 t1063 (([] : List Int)) 0 l0_0 l0_1)) = some (r1, r2) := H
  have A5 := Aside0.mk A50
  clear A50
  by_cases c6 : t1063.toList = ([] : List UInt8)
  · rw [if_pos c6] at H
    have c6b0 : (t1063.toList == ([] : List UInt8)) = true := beq_iff_eq.mpr c6
    have c6b1 : (t1063.toList != ([] : List UInt8)) = false := bne_eq_false_iff_eq.mpr c6
    clear c6
    simp only [Option.some.injEq, Prod.mk.injEq] at H
    obtain ⟨rfl, rfl⟩ := H
    go_enter Try.func35, Try.ntmps35
    go_wp2_with (first | ((with_reducible refine gate_dst (N := 4) rfl ?_); refine box_event ?hg (N := 4) ?hd (cs := #[.slice A0_0 l0_0.length c0_0, .slice A0_1 l0_1.length c0_1]) (t := 27) ?hr ?_; (case hd => rfl); (case hg => rfl); (case hr => first | (go_simp; done) | (go_simp; rfl)); intro gb1062 hg w7 hbox hb; have n0_ := Aside0.mk (below_step (by repeat (first | (with_reducible first | exact HB.out | apply below_alloc | apply pw_below_drewN | apply below_drew1) | exact HB.out)) hb); have n1_ := Aside0.mk (hbox); have n2_ := Aside0.mk ((by rw [hg]; exact (below_size (by repeat (first | (with_reducible first | exact HB.out | apply below_alloc | apply pw_below_drewN | apply below_drew1) | exact HB.out))) : w.heap.size ≤ gb1062)); have n3_ := Aside0.mk ((by rw [hg]; exact (below_size (by repeat (first | (with_reducible first | exact HB.out | apply below_alloc | apply pw_below_drewN | apply below_drew1) | exact HB.out))) : w.heap.size ≤ gb1062)); clear HB; have HB := n0_; have BK1062 := n1_; have GW1062 := n2_; have GE1062 := n3_; clear n0_ n1_ n2_ n3_; clear hb hbox hg; have hcz8_0 : w7.cell? ⟨gb1062, 0, none⟩ = some (.slice A0_0 l0_0.length c0_0) := (blk_cell BK1062.out 0).trans rfl; have hcz8_1 : w7.cell? ⟨gb1062, 1, none⟩ = some (.slice A0_1 l0_1.length c0_1) := (blk_cell BK1062.out 1).trans rfl; have hfz8_0 := blk_frozen BK1062.out 0; have hfz8_1 := blk_frozen BK1062.out 1) | ((with_reducible refine gate_callee (f := 33) rfl ?_); refine goesL_ (some 17) rfl rfl Try.func33 (by kernel_rfl) rfl #[.agg #[.slice A0_0 l0_0.length c0_0, .slice A0_1 l0_1.length c0_1], .int .i64 a1, .int .i64 a2, .int .i64 a3] rfl (by (try simp only [List.map_toArray, List.map_cons, List.map_nil]); first | done | rfl | (simp only [List.length_drop, List.length_take]; rfl)) ?_; (with_reducible refine (impl_PathText.calls k _ _ l0_0 _ _ l0_1 a1 a2 a3 t1063 _ ?side1 ?side2 ?side3 ?side4 A5.out).mono ?_); (case side1 => repeat (first | exact (Kd.C_below HR0_0.out HB.out) | (with_reducible refine Kd.C_alloc ?_ _) | (with_reducible refine Kd.C_drewN ?_ _) | (with_reducible refine Kd.C_drew ?_))); (case side2 => exact HC0_0.out); (case side3 => repeat (first | exact (Kd.C_below HR0_1.out HB.out) | (with_reducible refine Kd.C_alloc ?_ _) | (with_reducible refine Kd.C_drewN ?_ _) | (with_reducible refine Kd.C_drew ?_))); (case side4 => exact HC0_1.out); rintro e w9 ⟨rfl, hb⟩; refine ⟨_, rfl, ?_⟩; have n0_ := Aside0.mk (blk_below (g := gb1062) (o := .cells #[.slice A0_0 l0_0.length c0_0, .slice A0_1 l0_1.length c0_1] 27 (0, 0)) (by (with_reducible repeat (first | refine blk_drewN ?_ _ | refine blk_drew ?_ | refine blk_alloc ?_ _)); exact BK1062.out) hb); have n1_ := Aside0.mk (below_step (by repeat (first | (with_reducible first | exact HB.out | apply below_alloc | apply pw_below_drewN | apply below_drew1 | refine below_set ?_ GE1062.out) | exact HB.out)) hb); clear BK1062; clear HB; have BK1062 := n0_; have HB := n1_; clear n0_ n1_; (try clear hb); (try clear hb2); (try clear hk); (try clear hi)))
    go_ret2
    exact ⟨_, by first | rfl | (simp [errW_none, errW_some] <;> rfl) | (simp [*, errW_none, errW_some] <;> rfl), by first | exact Kd.R_nil _ _ _ _ _ | exact Kd.N_nil _ _ _ _ _ | exact Kd.V_nil _ _ _ _ _ | exact Kd.Q_nil _ _ _ _ _ | exact Kd.S_nil _ _ _ _ _, by repeat (first | (with_reducible first | exact HB.out | apply below_alloc | apply pw_below_drewN | apply below_drew1 | refine below_set ?_ GE1062.out) | exact HB.out)⟩
  · rw [if_neg c6] at H
    have c6b0 : (t1063.toList == ([] : List UInt8)) = false := beq_eq_false_iff_ne.mpr c6
    have c6b1 : (t1063.toList != ([] : List UInt8)) = true := bne_iff_ne.mpr c6
    obtain ⟨y1064, hy1064⟩ : ∃ y_ : List Int, y_ = (([] : List Int)) := ⟨_, rfl⟩
    replace H : (impl_PathSquares.l0 k a1 t1063 y1064 0 l0_0 l0_1) = some (r1, r2) := by first | (rw [hy1064]; with_reducible exact H) | (have H2_ := (Option.bind_some _ _).symm.trans H; rw [hy1064]; with_reducible exact H2_) | (have H2_ := (Option.bind_some _ _).symm.trans H; with_reducible exact H2_) | with_reducible exact H | (rw [hy1064]; exact H) | exact H
    have Ny1064 := Aside0.mk hy1064
    clear hy1064
    have H' := Aside0.mk H
    clear H
    go_enter Try.func35, Try.ntmps35
    go_wp2_with (first | ((with_reducible refine gate_dst (N := 4) rfl ?_); refine box_event ?hg (N := 4) ?hd (cs := #[.slice A0_0 l0_0.length c0_0, .slice A0_1 l0_1.length c0_1]) (t := 27) ?hr ?_; (case hd => rfl); (case hg => rfl); (case hr => first | (go_simp; done) | (go_simp; rfl)); intro gb1062 hg w10 hbox hb; have n0_ := Aside0.mk (below_step (by repeat (first | (with_reducible first | exact HB.out | apply below_alloc | apply pw_below_drewN | apply below_drew1) | exact HB.out)) hb); have n1_ := Aside0.mk (hbox); have n2_ := Aside0.mk ((by rw [hg]; exact (below_size (by repeat (first | (with_reducible first | exact HB.out | apply below_alloc | apply pw_below_drewN | apply below_drew1) | exact HB.out))) : w.heap.size ≤ gb1062)); have n3_ := Aside0.mk ((by rw [hg]; exact (below_size (by repeat (first | (with_reducible first | exact HB.out | apply below_alloc | apply pw_below_drewN | apply below_drew1) | exact HB.out))) : w.heap.size ≤ gb1062)); clear HB; have HB := n0_; have BK1062 := n1_; have GW1062 := n2_; have GE1062 := n3_; clear n0_ n1_ n2_ n3_; clear hb hbox hg; have hcz11_0 : w10.cell? ⟨gb1062, 0, none⟩ = some (.slice A0_0 l0_0.length c0_0) := (blk_cell BK1062.out 0).trans rfl; have hcz11_1 : w10.cell? ⟨gb1062, 1, none⟩ = some (.slice A0_1 l0_1.length c0_1) := (blk_cell BK1062.out 1).trans rfl; have hfz11_0 := blk_frozen BK1062.out 0; have hfz11_1 := blk_frozen BK1062.out 1) | ((with_reducible refine gate_callee (f := 33) rfl ?_); refine goesL_ (some 17) rfl rfl Try.func33 (by kernel_rfl) rfl #[.agg #[.slice A0_0 l0_0.length c0_0, .slice A0_1 l0_1.length c0_1], .int .i64 a1, .int .i64 a2, .int .i64 a3] rfl (by (try simp only [List.map_toArray, List.map_cons, List.map_nil]); first | done | rfl | (simp only [List.length_drop, List.length_take]; rfl)) ?_; (with_reducible refine (impl_PathText.calls k _ _ l0_0 _ _ l0_1 a1 a2 a3 t1063 _ ?side1 ?side2 ?side3 ?side4 A5.out).mono ?_); (case side1 => repeat (first | exact (Kd.C_below HR0_0.out HB.out) | (with_reducible refine Kd.C_alloc ?_ _) | (with_reducible refine Kd.C_drewN ?_ _) | (with_reducible refine Kd.C_drew ?_))); (case side2 => exact HC0_0.out); (case side3 => repeat (first | exact (Kd.C_below HR0_1.out HB.out) | (with_reducible refine Kd.C_alloc ?_ _) | (with_reducible refine Kd.C_drewN ?_ _) | (with_reducible refine Kd.C_drew ?_))); (case side4 => exact HC0_1.out); rintro e w12 ⟨rfl, hb⟩; refine ⟨_, rfl, ?_⟩; have n0_ := Aside0.mk (blk_below (g := gb1062) (o := .cells #[.slice A0_0 l0_0.length c0_0, .slice A0_1 l0_1.length c0_1] 27 (0, 0)) (by (with_reducible repeat (first | refine blk_drewN ?_ _ | refine blk_drew ?_ | refine blk_alloc ?_ _)); exact BK1062.out) hb); have n1_ := Aside0.mk (below_step (by repeat (first | (with_reducible first | exact HB.out | apply below_alloc | apply pw_below_drewN | apply below_drew1 | refine below_set ?_ GE1062.out) | exact HB.out)) hb); clear BK1062; clear HB; have BK1062 := n0_; have HB := n1_; clear n0_ n1_; (try clear hb); (try clear hb2); (try clear hk); (try clear hi)) | ((with_reducible refine gate_dst (N := 20) rfl ?_); refine Kd.R_lit (Kd.int .i64) _ 3 ?hg (N := 20) ?hd (xs := ([] : List Int)) (inner := []) (ok := fun _ => True) (okp := fun _ => True) ?hr ?hp (fun _ hk => hk) trivial (Below.refl _ _) (Nat.le_refl _) (by simp) ?_; (case hd => rfl); (case hg => rfl); (case hr => first | (go_simp; done) | (go_simp; rfl)); (case hp => exact (Reps.none _ _)); intro v1065 w13 ho14 hb hg_ hnew_; clear hg_ hnew_; (first | rw [← Ny1064.out] at ho14 | (simp only [Int.reduceToNat] at ho14; rw [← Ny1064.out] at ho14)); have n0_ := Aside0.mk (Kd.R_lower ho14 (below_size (by repeat (first | (with_reducible first | exact HB.out | apply below_alloc | apply pw_below_drewN | apply below_drew1 | refine below_set ?_ GE1062.out) | exact HB.out)))); have n1_ := Aside0.mk (blk_below (g := gb1062) (o := .cells #[.slice A0_0 l0_0.length c0_0, .slice A0_1 l0_1.length c0_1] 27 (0, 0)) (by (with_reducible repeat (first | refine blk_drewN ?_ _ | refine blk_drew ?_ | refine blk_alloc ?_ _)); exact BK1062.out) hb); have n2_ := Aside0.mk (below_step (by repeat (first | (with_reducible first | exact HB.out | apply below_alloc | apply pw_below_drewN | apply below_drew1 | refine below_set ?_ GE1062.out) | exact HB.out)) hb); clear BK1062; clear HB; have HO1066 := n0_; have BK1062 := n1_; have HB := n2_; clear n0_ n1_ n2_; clear hb ho14))
    go_loopg [1, 11, 12] k (fun kq v1 v11 v12 w' => ∃ (x1_1 : Int) (x11_1 : List Int) (x12_1 : Int), v1 = .int .i64 x1_1 ∧ v12 = .int .i64 x12_1 ∧ Aside0 (impl_PathSquares.l0 kq x1_1 t1063 x11_1 x12_1 l0_0 l0_1 = some (r1, r2)) ∧ Aside0 (kq ≤ k) ∧ Aside0 (Kd.R (Kd.int .i64) 3 w' w.heap.size (fun _ => True) v11 x11_1) ∧ Aside0 (w'.heap[gb1062]? = some (.cells #[(.slice A0_0 l0_0.length c0_0), (.slice A0_1 l0_1.length c0_1)] 27 (0, 0))) ∧ Aside0 (Below w.heap.size w w'))
    case atStart => exact ⟨(a1), (y1064), (0), (by first | rfl | (simp; done) | (simp [*]; done)), (by first | rfl | (simp; done) | (simp [*]; done)), H', ⟨Nat.le_refl _⟩, ⟨by (with_reducible repeat (first | apply Kd.R_alloc | apply Kd.R_drewN | apply Kd.R_drew)); exact HO1066.out⟩, ⟨by (with_reducible repeat (first | refine blk_drewN ?_ _ | refine blk_drew ?_ | refine blk_alloc ?_ _)); exact BK1062.out⟩, ⟨by repeat (first | (with_reducible first | exact HB.out | apply below_alloc | apply pw_below_drewN | apply below_drew1 | refine below_set ?_ GE1062.out) | exact HB.out)⟩⟩
    case round =>
      clear H'
      try clear p2
      try clear c3
      try clear c6
      try clear c6b0
      try clear c6b1
      try clear hcz11_0
      try clear hcz11_1
      try clear hcz8_0
      try clear hcz8_1
      try clear hfz11_0
      try clear hfz11_1
      try clear hfz8_0
      try clear hfz8_1
      obtain ⟨x1_1, x11_1, x12_1, rfl, rfl, HA, HK1, HO_11, BK1062, HB⟩ := hrel
      cases gk with
      | zero => exact absurd HA.out (by simp [impl_PathSquares.l0])
      | succ k1 =>
        have H := HA.out
        clear HA
        simp only [impl_PathSquares.l0] at H
        by_cases c15 : x12_1 < (t1063.size : Int)
        · rw [if_pos c15] at H
          have c15b0 : decide (x12_1 < (t1063.size : Int)) = true := decide_eq_true c15
          clear c15
          by_cases c16 : x11_1.length < 17592186044416
          · rw [if_pos c16] at H
            have LMc16 := Aside0.mk c16
            clear c16
            obtain ⟨y1067, hy1067⟩ : ∃ y_ : List Int, y_ = (x11_1 ++ [x1_1]) := ⟨_, rfl⟩
            replace H : (if 0 ≤ x12_1 then ((impl_stepSquare.f l0_0 l0_1 x1_1 (bt t1063 x12_1)).bind fun t1070 => (impl_PathSquares.l0 k1 t1070 t1063 y1067 (wrap64 (x12_1 + 1)) l0_0 l0_1)) else (none)) = some (r1, r2) := by first | (rw [hy1067]; with_reducible exact H) | (have H2_ := (Option.bind_some _ _).symm.trans H; rw [hy1067]; with_reducible exact H2_) | (have H2_ := (Option.bind_some _ _).symm.trans H; with_reducible exact H2_) | with_reducible exact H | (rw [hy1067]; exact H) | exact H
            have Ny1067 := Aside0.mk hy1067
            clear hy1067
            by_cases c17 : 0 ≤ x12_1
            · rw [if_pos c17] at H
              have c17b0 : decide (0 ≤ x12_1) = true := decide_eq_true c17
              clear c17
              replace H := Option.bind_eq_some_iff.mp H
              obtain ⟨t1070, A190, H⟩ := H
              replace H : (impl_PathSquares.l0 k1 t1070 t1063 y1067 (wrap64 (x12_1 + 1)) l0_0 l0_1) = some (r1, r2) := H
              have A19 := Aside0.mk A190
              clear A190
              have H' := Aside0.mk H
              clear H
              try go_wp2_with (first | ((with_reducible refine gate_builtin (b := .append) (xs := #[.tmp 27, .tmp 29]) rfl ?_); at_builtin; refine Kd.R_append (Kd.int .i64) (w0 := w) w.heap.size rfl (.tmp 27) (.tmp 29) 22 3 (.int .i64 0) 8 rfl Try.underlying22 info3 rfl (by decide) (by omega) u11 x11_1 x1_1 [.int .i64 x1_1] (fun _ => True) (fun _ => False) rfl rfl ?aP (fun _ hk => hk.elim) ?aF ?aO ?aB ?aS ?aL ?_; (case aP => exact rfl); (case aB => exact (by repeat (first | (with_reducible first | exact HB.out | apply below_alloc | apply pw_below_drewN | apply below_drew1 | refine below_set ?_ GE1062.out) | exact HB.out))); (case aF => exact (fun _ _ => trivial)); (case aO => exact (by (with_reducible repeat (first | apply Kd.R_alloc | apply Kd.R_drewN | apply Kd.R_drew)); exact HO_11.out)); (case aS => exact (below_size (by repeat (first | (with_reducible first | exact HB.out | apply below_alloc | apply pw_below_drewN | apply below_drew1 | refine below_set ?_ GE1062.out) | exact HB.out)))); (case aL => have := LMc16.out; omega); intro v1068 w20 ho hb hg hat; rw [← Ny1067.out] at ho; have n0_ := Aside0.mk (blk_grown (g := gb1062) (o := .cells #[.slice A0_0 l0_0.length c0_0, .slice A0_1 l0_1.length c0_1] 27 (0, 0)) (by (with_reducible repeat (first | refine blk_drewN ?_ _ | refine blk_drew ?_ | refine blk_alloc ?_ _)); exact BK1062.out) hg (Kd.R_ne HO_11.out BK1062.out (by decide))); have n1_ := Aside0.mk (hb); have n2_ := Aside0.mk (ho); clear BK1062; clear HB; clear HO_11; have BK1062 := n0_; have HB := n1_; have HO1069 := n2_; clear n0_ n1_ n2_; clear ho hb hg hat))
              have n0_ := Aside0.mk (Kd.R_drew HO1069.out)
              have n1_ := Aside0.mk (blk_drew BK1062.out)
              have n2_ := Aside0.mk (below_drew1 HB.out)
              clear HO1069
              clear BK1062
              clear HB
              have HO1069 := n0_
              have BK1062 := n1_
              have HB := n2_
              clear n0_ n1_ n2_
              have p18 : 0 ≤ (x12_1 : Int) := of_decide_eq_true (by first | (with_reducible assumption) | assumption)
              have q18 : x12_1 < (t1063.size : Int) := of_decide_eq_true (by first | (with_reducible assumption) | assumption)
              have hx18 := bt_at t1063 x12_1
              replace p18 := eq_true p18
              replace q18 := eq_true q18
              refine start_ (n := 7) (S := fun w' => w'.cell? ⟨gb1062, 0, none⟩ = some (.slice A0_0 l0_0.length c0_0) ∧ w'.cell? ⟨gb1062, 1, none⟩ = some (.slice A0_1 l0_1.length c0_1)) (ds := []) #[false, false, false, false, false, false, false] (by kernel_rfl) rfl rfl ⟨(blk_cell BK1062.out 0).trans rfl, (blk_cell BK1062.out 1).trans rfl⟩ (fun hHeld => ?_)
              generalize w20.drew = w21 at HO1069 BK1062 HB hHeld ⊢
              refine pure_ (i := 1) (N := some 32) (v := ?_) (a' := ?_) #[false, true, false, false, false, false, false] rfl rfl (by kernel_rfl) (fun _ _ _ h => h) (Or.inl ⟨by rfl, ?_⟩) ?_ ?_
              rotate_left
              · intro w'
                go_simp
                with_reducible rfl
              rotate_left
              · simp only [Act.put, List.setIfInBounds_toArray, List.set_cons_zero, List.set_cons_succ, i64_w, i32_w]
                rfl
              refine pure_ (i := 2) (N := some 33) (v := ?_) (a' := ?_) #[false, true, true, false, false, false, false] rfl rfl (by kernel_rfl) (fun _ _ _ h => h) (Or.inl ⟨by rfl, ?_⟩) ?_ ?_
              rotate_left
              · intro w'
                go_simp
                with_reducible rfl
              rotate_left
              · simp only [Act.put, List.setIfInBounds_toArray, List.set_cons_zero, List.set_cons_succ, i64_w, i32_w]
                rfl
              refine pure_ (i := 3) (N := some 34) (v := ?_) (a' := ?_) #[false, true, true, true, false, false, false] rfl rfl (by kernel_rfl) (fun _ _ _ h => h) (Or.inl ⟨by rfl, ?_⟩) ?_ ?_
              rotate_left
              · intro w'
                go_simp
                with_reducible rfl
              rotate_left
              · simp only [Act.put, List.setIfInBounds_toArray, List.set_cons_zero, List.set_cons_succ, i64_w, i32_w]
                rfl
              refine take_ (i := 0) (N := some 31) (v := ?_) (a' := ?_) #[true, true, true, true, false, false, false] rfl rfl (by kernel_rfl) (fun _ _ _ h => h) (Or.inl ⟨by rfl, ?_⟩) hHeld ?_ ?_
              rotate_left
              · rintro w' ⟨s0, s1⟩
                go_simp
                with_reducible rfl
              rotate_left
              · simp only [Act.put, List.setIfInBounds_toArray, List.set_cons_zero, List.set_cons_succ, i64_w, i32_w]
                rfl
              refine take_ (i := 4) (N := some 35) (v := ?_) (a' := ?_) #[true, true, true, true, true, false, false] rfl rfl (by kernel_rfl) (fun _ _ _ h => h) (Or.inl ⟨by rfl, ?_⟩) hHeld ?_ ?_
              rotate_left
              · rintro w' ⟨s0, s1⟩
                go_simp
                with_reducible rfl
              rotate_left
              · simp only [Act.put, List.setIfInBounds_toArray, List.set_cons_zero, List.set_cons_succ, i64_w, i32_w]
                rfl
              refine one_ (i := 5) (N := some 36) #[true, true, true, true, true, true, false] rfl rfl (by kernel_rfl) (by decide) (fun K hK => ?_)
              refine goes_ Try.func85 (by kernel_rfl) rfl #[.agg #[.slice A0_0 l0_0.length c0_0, .slice A0_1 l0_1.length c0_1], .int .i64 x1_1, .int .u8 (bt t1063 x12_1)] (by rfl) rfl rfl (by (try simp only [List.map_toArray, List.map_cons, List.map_nil]); first | done | rfl | (simp only [List.length_drop, List.length_take]; rfl)) ?_
              with_reducible refine (impl_stepSquare.calls _ _ l0_0 _ _ l0_1 x1_1 (bt t1063 x12_1) t1070 _ ?side1 ?side2 ?side3 ?side4 A19.out).mono ?_
              (case side1 => repeat (first | exact (Kd.C_below HR0_0.out HB.out) | (with_reducible refine Kd.C_alloc ?_ _) | (with_reducible refine Kd.C_drewN ?_ _) | (with_reducible refine Kd.C_drew ?_)))
              (case side2 => exact HC0_0.out)
              (case side3 => repeat (first | exact (Kd.C_below HR0_1.out HB.out) | (with_reducible refine Kd.C_alloc ?_ _) | (with_reducible refine Kd.C_drewN ?_ _) | (with_reducible refine Kd.C_drew ?_)))
              (case side4 => exact HC0_1.out)
              rintro e w22 ⟨rfl, hb⟩
              refine ⟨_, rfl, ?_⟩
              have n0_ := Aside0.mk (Kd.R_below (by (with_reducible repeat (first | apply Kd.R_alloc | apply Kd.R_drewN | apply Kd.R_drew)); exact HO1069.out) hb)
              have n1_ := Aside0.mk (blk_below (g := gb1062) (o := .cells #[.slice A0_0 l0_0.length c0_0, .slice A0_1 l0_1.length c0_1] 27 (0, 0)) (by (with_reducible repeat (first | refine blk_drewN ?_ _ | refine blk_drew ?_ | refine blk_alloc ?_ _)); exact BK1062.out) hb)
              have n2_ := Aside0.mk (below_step (by repeat (first | (with_reducible first | exact HB.out | apply below_alloc | apply pw_below_drewN | apply below_drew1 | refine below_set ?_ GE1062.out) | exact HB.out)) hb)
              clear HO1069
              clear BK1062
              clear HB
              have HO1069 := n0_
              have BK1062 := n1_
              have HB := n2_
              clear n0_ n1_ n2_
              (try clear hb)
              (try clear hb2)
              (try clear hk)
              (try clear hi)
              refine hK.out _ _ ⟨(blk_cell BK1062.out 0).trans rfl, (blk_cell BK1062.out 1).trans rfl⟩ (fun hHeld => ?_)
              clear hK K
              refine norm_ (a' := ?_) ?_ ?_
              rotate_left
              · show Act.put _ (some 36) _ = _
                simp only [Act.put, List.setIfInBounds_toArray, List.set_cons_zero, List.set_cons_succ, i64_w, i32_w]
                rfl
              refine pure_ (i := 6) (N := some 1) (v := ?_) (a' := ?_) #[true, true, true, true, true, true, true] rfl rfl (by kernel_rfl) (fun _ _ _ h => h) (Or.inl ⟨by rfl, ?_⟩) ?_ ?_
              rotate_left
              · intro w'
                go_simp
                with_reducible rfl
              rotate_left
              · simp only [Act.put, List.setIfInBounds_toArray, List.set_cons_zero, List.set_cons_succ, i64_w, i32_w]
                rfl
              refine done_ (by kernel_rfl) ?_
              try go_wp2
              go_roundg k1
              case measure => have := HK1.out; omega
              case rel => exact ⟨(t1070), (y1067), (wrap64 (x12_1 + 1)), (by first | rfl | (simp; done) | (simp [*]; done)), (by first | rfl | (simp; done) | (simp [*]; done)), H', ⟨by have := HK1.out; omega⟩, ⟨by (with_reducible repeat (first | apply Kd.R_alloc | apply Kd.R_drewN | apply Kd.R_drew)); exact HO1069.out⟩, ⟨by (with_reducible repeat (first | refine blk_drewN ?_ _ | refine blk_drew ?_ | refine blk_alloc ?_ _)); exact BK1062.out⟩, ⟨by repeat (first | (with_reducible first | exact HB.out | apply below_alloc | apply pw_below_drewN | apply below_drew1 | refine below_set ?_ GE1062.out) | exact HB.out)⟩⟩
            · rw [if_neg c17] at H
              exact absurd H (by simp)
          · rw [if_neg c16] at H
            exact absurd H (by simp)
        · rw [if_neg c15] at H
          have c15b0 : decide (x12_1 < (t1063.size : Int)) = false := decide_eq_false c15
          clear c15
          simp only [Option.some.injEq, Prod.mk.injEq] at H
          obtain ⟨rfl, rfl⟩ := H
          go_wp2
          go_ret2
          exact ⟨_, by first | rfl | (simp [errW_none, errW_some] <;> rfl) | (simp [*, errW_none, errW_some] <;> rfl), by (with_reducible repeat (first | apply Kd.R_alloc | apply Kd.R_drewN | apply Kd.R_drew)); exact HO_11.out, by repeat (first | (with_reducible first | exact HB.out | apply below_alloc | apply pw_below_drewN | apply below_drew1 | refine below_set ?_ GE1062.out) | exact HB.out)⟩
end Go.Proofs.Ytbdnellgioimbaa.A
end
section
namespace Go.Proofs.Ytbdnellgioimbaa.A
open Go.RowKit Go.Proofs.YtbdnellgioimbaaW.PrintWords Go.Proofs.YtbdnellgioimbaaW.PrintLast Go.Proofs.YtbdnellgioimbaaW.PrintMore
attribute [local go_sem] max2_int min2_int max_two min_two max_three min_three max_four min_four
set_option linter.unusedVariables false
set_option linter.unusedSimpArgs false
def impl_Visits.l0 : Nat → List Int → List Int → Int → Int → Option (List Int)
  | 0, _, _, _, _ => none
  | k + 1, x11, x27, x28, x29 => if x29 < x28 then (if 0 ≤ x29 then (if x29 < (x27.length : Int) then (if 0 ≤ (rd x27 x29) then (if (rd x27 x29) < (x11.length : Int) then (impl_Visits.l0 k (x11.set ((rd x27 x29) : Int).toNat (wrap64 ((rd x11 (rd x27 x29)) + 1))) x27 x28 (wrap64 (x29 + 1))) else (none)) else (none)) else (none)) else (none)) else (some x11)
def impl_Visits.f (k : Nat) (l0_0 : List Int) (l0_1 : List Int) (a1 : Int) (a2 : Int) (a3 : Int) : Option (List Int) := (impl_PathSquares.f k l0_0 l0_1 a1 a2 a3).bind fun bt1134 => (if bt1134.2 = true then ((impl_CountSquares.f k l0_0 l0_1).bind fun t1138 => (if 0 ≤ t1138 then (if (t1138 : Int).toNat ≤ 35184372088832 then (impl_Visits.l0 k (List.replicate (t1138 : Int).toNat 0) bt1134.1 (bt1134.1.length : Int) 0) else (none)) else (none))) else (some ([] : List Int)))
theorem impl_Visits.mono_l : ∀ k, (∀ y0 y1 y2 y3, LeO (impl_Visits.l0 k y0 y1 y2 y3) (impl_Visits.l0 (k + 1) y0 y1 y2 y3))
  | 0 => fun _ _ _ _ r h => by simp [impl_Visits.l0] at h
  | k + 1 => by
    have ih0 := impl_Visits.mono_l k
    · intro y0 y1 y2 y3
      unfold impl_Visits.l0
      repeat' first
      | (with_reducible exact ih0 _ _ _ _)
      | (with_reducible exact impl_CountSquares.mono _ _ _)
      | (with_reducible exact impl_PathSquares.mono _ _ _ _ _ _)
      | (with_reducible exact LeO.refl _)
      | (with_reducible exact LeO.none _)
      | (with_reducible refine LeO.ite ?_ ?_)
      | (with_reducible refine LeO.bind ?_ (fun _ => ?_))
      | exact ih0 _ _ _ _
      | exact impl_CountSquares.mono _ _ _
      | exact impl_PathSquares.mono _ _ _ _ _ _
      | exact LeO.none _
      | refine LeO.ite ?_ ?_
      | refine LeO.bind ?_ (fun _ => ?_)
theorem impl_Visits.mono : ∀ a0 a1 a2 a3 a4 k, LeO (impl_Visits.f k a0 a1 a2 a3 a4) (impl_Visits.f (k + 1) a0 a1 a2 a3 a4) := by
  intro a0 a1 a2 a3 a4 k
  have ih0 := impl_Visits.mono_l k
  unfold impl_Visits.f
  repeat' first
      | (with_reducible exact ih0 _ _ _ _)
      | (with_reducible exact impl_CountSquares.mono _ _ _)
      | (with_reducible exact impl_PathSquares.mono _ _ _ _ _ _)
      | (with_reducible exact LeO.refl _)
      | (with_reducible exact LeO.none _)
      | (with_reducible refine LeO.ite ?_ ?_)
      | (with_reducible refine LeO.bind ?_ (fun _ => ?_))
      | exact ih0 _ _ _ _
      | exact impl_CountSquares.mono _ _ _
      | exact impl_PathSquares.mono _ _ _ _ _ _
      | exact LeO.none _
      | refine LeO.ite ?_ ?_
      | refine LeO.bind ?_ (fun _ => ?_)
set_option maxHeartbeats 8000000 in
set_option maxRecDepth 100000 in
theorem impl_Visits.calls (k : Nat) (A0_0 : Option Addr) (c0_0 : Nat) (l0_0 : List Int) (A0_1 : Option Addr) (c0_1 : Nat) (l0_1 : List Int) (a1 : Int) (a2 : Int) (a3 : Int) (r : List Int) (w : World) (hr0_0 : Kd.C (Kd.int .i64) w A0_0 l0_0.length l0_0) (hc0_0 : l0_0.length ≤ c0_0) (hr0_1 : Kd.C (Kd.int .i64) w A0_1 l0_1.length l0_1) (hc0_1 : l0_1.length ≤ c0_1) (h : impl_Visits.f k l0_0 l0_1 a1 a2 a3 = some r) :
    Calls Try.prog 40 #[.agg #[.slice A0_0 l0_0.length c0_0, .slice A0_1 l0_1.length c0_1], .int .i64 a1, .int .i64 a2, .int .i64 a3] w fun e w' => ∃ v0_ : Value, e = .returned (v0_) ∧ Kd.R (Kd.int .i64) 3 w' w.heap.size (fun _ => True) v0_ r ∧ Below w.heap.size w w' := by
  have hu27 := Try.underlying27
  have HR0_0 := Aside0.mk hr0_0
  have HC0_0 := Aside0.mk hc0_0
  clear hr0_0 hc0_0
  have HR0_1 := Aside0.mk hr0_1
  have HC0_1 := Aside0.mk hc0_1
  clear hr0_1 hc0_1
  have HB := Aside0.mk (Below.refl w.heap.size w)
  have H : ((impl_PathSquares.f k l0_0 l0_1 a1 a2 a3).bind fun bt1134 => (if bt1134.2 = true then ((impl_CountSquares.f k l0_0 l0_1).bind fun t1138 => (if 0 ≤ t1138 then (if (t1138 : Int).toNat ≤ 35184372088832 then (impl_Visits.l0 k (List.replicate (t1138 : Int).toNat 0) bt1134.1 (bt1134.1.length : Int) 0) else (none)) else (none))) else (some ([] : List Int)))) = some r := h
  clear h
  replace H := Option.bind_eq_some_iff.mp H
  obtain ⟨⟨t1134, t1137⟩, A50, H⟩ := H
  replace H : (if t1137 = true then ((impl_CountSquares.f k l0_0 l0_1).bind fun t1138 => (if 0 ≤ t1138 then (if (t1138 : Int).toNat ≤ 35184372088832 then (impl_Visits.l0 k (List.replicate (t1138 : Int).toNat 0) t1134 (t1134.length : Int) 0) else (none)) else (none))) else (some ([] : List Int))) = some r := H
  have A5 := Aside0.mk A50
  clear A50
  by_cases c6 : t1137 = true
  · subst c6
    have H1 : ((impl_CountSquares.f k l0_0 l0_1).bind fun t1138 => (if 0 ≤ t1138 then (if (t1138 : Int).toNat ≤ 35184372088832 then (impl_Visits.l0 k (List.replicate (t1138 : Int).toNat 0) t1134 (t1134.length : Int) 0) else (none)) else (none))) = some r := by rw [if_pos rfl] at H; exact H
    clear H
    have H := H1
    clear H1
    replace H := Option.bind_eq_some_iff.mp H
    obtain ⟨t1138, A70, H⟩ := H
    replace H : (if 0 ≤ t1138 then (if (t1138 : Int).toNat ≤ 35184372088832 then (impl_Visits.l0 k (List.replicate (t1138 : Int).toNat 0) t1134 (t1134.length : Int) 0) else (none)) else (none)) = some r := H
    have A7 := Aside0.mk A70
    clear A70
    by_cases c8 : 0 ≤ t1138
    · rw [if_pos c8] at H
      have c8b0 := eq_true c8
      have c8b1 : decide (0 ≤ t1138) = true := decide_eq_true c8
      clear c8
      by_cases c9 : (t1138 : Int).toNat ≤ 35184372088832
      · rw [if_pos c9] at H
        have c9b0 := eq_true c9
        have c9b1 : decide ((t1138 : Int).toNat ≤ 35184372088832) = true := decide_eq_true c9
        clear c9
        obtain ⟨y1139, hy1139⟩ : ∃ y_ : List Int, y_ = (List.replicate (t1138 : Int).toNat 0) := ⟨_, rfl⟩
        replace H : (impl_Visits.l0 k y1139 t1134 (t1134.length : Int) 0) = some r := by first | (rw [hy1139]; with_reducible exact H) | (have H2_ := (Option.bind_some _ _).symm.trans H; rw [hy1139]; with_reducible exact H2_) | (have H2_ := (Option.bind_some _ _).symm.trans H; with_reducible exact H2_) | with_reducible exact H | (rw [hy1139]; exact H) | exact H
        have Ny1139 := Aside0.mk hy1139
        clear hy1139
        have H' := Aside0.mk H
        clear H
        go_enter Try.func40, Try.ntmps40
        go_wp2_with (first | ((with_reducible refine gate_dst (N := 4) rfl ?_); refine box_event ?hg (N := 4) ?hd (cs := #[.slice A0_0 l0_0.length c0_0, .slice A0_1 l0_1.length c0_1]) (t := 27) ?hr ?_; (case hd => rfl); (case hg => rfl); (case hr => first | (go_simp; done) | (go_simp; rfl)); intro gb1133 hg w10 hbox hb; have n0_ := Aside0.mk (below_step (by repeat (first | (with_reducible first | exact HB.out | apply below_alloc | apply pw_below_drewN | apply below_drew1) | exact HB.out)) hb); have n1_ := Aside0.mk (hbox); have n2_ := Aside0.mk ((by rw [hg]; exact (below_size (by repeat (first | (with_reducible first | exact HB.out | apply below_alloc | apply pw_below_drewN | apply below_drew1) | exact HB.out))) : w.heap.size ≤ gb1133)); have n3_ := Aside0.mk ((by rw [hg]; exact (below_size (by repeat (first | (with_reducible first | exact HB.out | apply below_alloc | apply pw_below_drewN | apply below_drew1) | exact HB.out))) : w.heap.size ≤ gb1133)); clear HB; have HB := n0_; have BK1133 := n1_; have GW1133 := n2_; have GE1133 := n3_; clear n0_ n1_ n2_ n3_; clear hb hbox hg; have hcz11_0 : w10.cell? ⟨gb1133, 0, none⟩ = some (.slice A0_0 l0_0.length c0_0) := (blk_cell BK1133.out 0).trans rfl; have hcz11_1 : w10.cell? ⟨gb1133, 1, none⟩ = some (.slice A0_1 l0_1.length c0_1) := (blk_cell BK1133.out 1).trans rfl; have hfz11_0 := blk_frozen BK1133.out 0; have hfz11_1 := blk_frozen BK1133.out 1) | ((with_reducible refine gate_callee (f := 35) rfl ?_); refine goesL_ (some 19) rfl rfl Try.func35 (by kernel_rfl) rfl #[.agg #[.slice A0_0 l0_0.length c0_0, .slice A0_1 l0_1.length c0_1], .int .i64 a1, .int .i64 a2, .int .i64 a3] rfl (by (try simp only [List.map_toArray, List.map_cons, List.map_nil]); first | done | rfl | (simp only [List.length_drop, List.length_take]; rfl)) ?_; (with_reducible refine (impl_PathSquares.calls k _ _ l0_0 _ _ l0_1 a1 a2 a3 t1134 true _ ?side1 ?side2 ?side3 ?side4 A5.out).mono ?_); (case side1 => repeat (first | exact (Kd.C_below HR0_0.out HB.out) | (with_reducible refine Kd.C_alloc ?_ _) | (with_reducible refine Kd.C_drewN ?_ _) | (with_reducible refine Kd.C_drew ?_))); (case side2 => exact HC0_0.out); (case side3 => repeat (first | exact (Kd.C_below HR0_1.out HB.out) | (with_reducible refine Kd.C_alloc ?_ _) | (with_reducible refine Kd.C_drewN ?_ _) | (with_reducible refine Kd.C_drew ?_))); (case side4 => exact HC0_1.out); rintro e w12 ⟨v1135, rfl, ho0, hb⟩; refine ⟨_, rfl, ?_⟩; have n0_ := Aside0.mk (Kd.R_lower ho0 (below_size (by repeat (first | (with_reducible first | exact HB.out | apply below_alloc | apply pw_below_drewN | apply below_drew1 | refine below_set ?_ GE1133.out) | exact HB.out)))); have n1_ := Aside0.mk (blk_below (g := gb1133) (o := .cells #[.slice A0_0 l0_0.length c0_0, .slice A0_1 l0_1.length c0_1] 27 (0, 0)) (by (with_reducible repeat (first | refine blk_drewN ?_ _ | refine blk_drew ?_ | refine blk_alloc ?_ _)); exact BK1133.out) hb); have n2_ := Aside0.mk (below_step (by repeat (first | (with_reducible first | exact HB.out | apply below_alloc | apply pw_below_drewN | apply below_drew1 | refine below_set ?_ GE1133.out) | exact HB.out)) hb); clear BK1133; clear HB; have HO1136 := n0_; have BK1133 := n1_; have HB := n2_; clear n0_ n1_ n2_; (try clear hb); (try clear hb2); (try clear hk); (try clear hi); (try clear ho0); have hcz13_0 : w12.cell? ⟨gb1133, 0, none⟩ = some (.slice A0_0 l0_0.length c0_0) := (blk_cell BK1133.out 0).trans rfl; have hcz13_1 : w12.cell? ⟨gb1133, 1, none⟩ = some (.slice A0_1 l0_1.length c0_1) := (blk_cell BK1133.out 1).trans rfl; have hfz13_0 := blk_frozen BK1133.out 0; have hfz13_1 := blk_frozen BK1133.out 1) | ((with_reducible refine gate_callee (f := 86) rfl ?_); refine goesL_ (some 25) rfl rfl Try.func86 (by kernel_rfl) rfl #[.agg #[.slice A0_0 l0_0.length c0_0, .slice A0_1 l0_1.length c0_1]] rfl (by (try simp only [List.map_toArray, List.map_cons, List.map_nil]); first | done | rfl | (simp only [List.length_drop, List.length_take]; rfl)) ?_; (with_reducible refine (impl_CountSquares.calls k _ _ l0_0 _ _ l0_1 t1138 _ ?side1 ?side2 ?side3 ?side4 A7.out).mono ?_); (case side1 => repeat (first | exact (Kd.C_below HR0_0.out HB.out) | (with_reducible refine Kd.C_alloc ?_ _) | (with_reducible refine Kd.C_drewN ?_ _) | (with_reducible refine Kd.C_drew ?_))); (case side2 => exact HC0_0.out); (case side3 => repeat (first | exact (Kd.C_below HR0_1.out HB.out) | (with_reducible refine Kd.C_alloc ?_ _) | (with_reducible refine Kd.C_drewN ?_ _) | (with_reducible refine Kd.C_drew ?_))); (case side4 => exact HC0_1.out); rintro e w14 ⟨rfl, hb⟩; refine ⟨_, rfl, ?_⟩; have n0_ := Aside0.mk (Kd.R_below (by (with_reducible repeat (first | apply Kd.R_alloc | apply Kd.R_drewN | apply Kd.R_drew)); exact HO1136.out) hb); have n1_ := Aside0.mk (blk_below (g := gb1133) (o := .cells #[.slice A0_0 l0_0.length c0_0, .slice A0_1 l0_1.length c0_1] 27 (0, 0)) (by (with_reducible repeat (first | refine blk_drewN ?_ _ | refine blk_drew ?_ | refine blk_alloc ?_ _)); exact BK1133.out) hb); have n2_ := Aside0.mk (below_step (by repeat (first | (with_reducible first | exact HB.out | apply below_alloc | apply pw_below_drewN | apply below_drew1 | refine below_set ?_ GE1133.out) | exact HB.out)) hb); clear HO1136; clear BK1133; clear HB; have HO1136 := n0_; have BK1133 := n1_; have HB := n2_; clear n0_ n1_ n2_; (try clear hb); (try clear hb2); (try clear hk); (try clear hi)) | ((with_reducible refine gate_dst (N := 26) rfl ?_); refine Kd.R_make (Kd.int .i64) _ 3 rfl (N := 26) rfl 22 _ _ rfl t1138 rfl rfl Try.underlying22 (.int .i64 0) 8 info3 rfl (by decide) (by omega) 0 (ok := fun _ => True) (okp := fun _ => True) rfl (fun _ hk => hk) trivial (of_decide_eq_true (by first | (with_reducible assumption) | assumption)) (Nat.le_trans (Nat.mul_le_mul_right _ (of_decide_eq_true (by first | (with_reducible assumption) | assumption) : t1138.toNat ≤ 35184372088832)) (by omega)) (Below.refl _ _) (Nat.le_refl _) ?_; intro v1140 w15 ho16 hb hg_ hnew_; clear hg_ hnew_; (first | rw [← Ny1139.out] at ho16 | (simp only [Int.reduceToNat] at ho16; rw [← Ny1139.out] at ho16)); have n0_ := Aside0.mk (Kd.R_elder' (by (with_reducible repeat (first | apply Kd.R_alloc | apply Kd.R_drewN | apply Kd.R_drew)); exact HO1136.out) (Kd.R_base ho16) hb); have n1_ := Aside0.mk (Kd.R_lower (Kd.R_new' ho16 (Kd.R_lt (by (with_reducible repeat (first | apply Kd.R_alloc | apply Kd.R_drewN | apply Kd.R_drew)); exact HO1136.out))) (below_size (by repeat (first | (with_reducible first | exact HB.out | apply below_alloc | apply pw_below_drewN | apply below_drew1 | refine below_set ?_ GE1133.out) | exact HB.out)))); have n2_ := Aside0.mk (blk_below (g := gb1133) (o := .cells #[.slice A0_0 l0_0.length c0_0, .slice A0_1 l0_1.length c0_1] 27 (0, 0)) (by (with_reducible repeat (first | refine blk_drewN ?_ _ | refine blk_drew ?_ | refine blk_alloc ?_ _)); exact BK1133.out) hb); have n3_ := Aside0.mk (below_step (by repeat (first | (with_reducible first | exact HB.out | apply below_alloc | apply pw_below_drewN | apply below_drew1 | refine below_set ?_ GE1133.out) | exact HB.out)) hb); clear HO1136; clear BK1133; clear HB; have HO1136 := n0_; have HO1141 := n1_; have BK1133 := n2_; have HB := n3_; clear n0_ n1_ n2_ n3_; clear hb ho16; obtain ⟨Ao17, co17, eo17⟩ := Kd.R_slice HO1136.out; subst eo17))
        go_loopg [29] k (fun kq v29 w' => ∃ (x11_1 : List Int) (x29_1 : Int), v29 = .int .i64 x29_1 ∧ Aside0 (impl_Visits.l0 kq x11_1 t1134 (t1134.length : Int) x29_1 = some r) ∧ Aside0 (kq ≤ k) ∧ Aside0 (Kd.R (Kd.int .i64) 3 w' w.heap.size (fun k_ => some k_ ≠ ((.slice Ao17 t1134.length co17) : Value).ownBlock) v1140 x11_1) ∧ Aside0 (Kd.R (Kd.int .i64) 3 w' w.heap.size (fun k_ => some k_ ≠ (v1140 : Value).ownBlock) (.slice Ao17 t1134.length co17) t1134) ∧ Aside0 (w'.heap[gb1133]? = some (.cells #[(.slice A0_0 l0_0.length c0_0), (.slice A0_1 l0_1.length c0_1)] 27 (0, 0))) ∧ Aside0 (Below w.heap.size w w'))
        case atStart => exact ⟨(y1139), (0), (by first | rfl | (simp; done) | (simp [*]; done)), H', ⟨Nat.le_refl _⟩, ⟨by (with_reducible repeat (first | apply Kd.R_alloc | apply Kd.R_drewN | apply Kd.R_drew)); exact Kd.R_mono HO1141.out (fun _ hk => hk.2)⟩, ⟨by (with_reducible repeat (first | apply Kd.R_alloc | apply Kd.R_drewN | apply Kd.R_drew)); exact Kd.R_mono HO1136.out (fun _ hk => hk.2)⟩, ⟨by (with_reducible repeat (first | refine blk_drewN ?_ _ | refine blk_drew ?_ | refine blk_alloc ?_ _)); exact BK1133.out⟩, ⟨by repeat (first | (with_reducible first | exact HB.out | apply below_alloc | apply pw_below_drewN | apply below_drew1 | refine below_set ?_ GE1133.out) | exact HB.out)⟩⟩
        case round =>
          clear H'
          try clear p2
          try clear c3
          try clear c4
          try clear c6
          try clear c8
          try clear c8b0
          try clear c8b1
          try clear c9
          try clear c9b0
          try clear c9b1
          try clear hcz11_0
          try clear hcz11_1
          try clear hcz13_0
          try clear hcz13_1
          try clear hfz11_0
          try clear hfz11_1
          try clear hfz13_0
          try clear hfz13_1
          obtain ⟨x11_1, x29_1, rfl, HA, HK1, HO_11, HO_27, BK1133, HB⟩ := hrel
          cases gk with
          | zero => exact absurd HA.out (by simp [impl_Visits.l0])
          | succ k1 =>
            have H := HA.out
            clear HA
            simp only [impl_Visits.l0] at H
            by_cases c18 : x29_1 < (t1134.length : Int)
            · rw [if_pos c18] at H
              have c18b0 : decide (x29_1 < (t1134.length : Int)) = true := decide_eq_true c18
              clear c18
              by_cases c19 : 0 ≤ x29_1
              · rw [if_pos c19] at H
                have c19b0 : decide (0 ≤ x29_1) = true := decide_eq_true c19
                clear c19
                by_cases c20 : x29_1 < (t1134.length : Int)
                · rw [if_pos c20] at H
                  have c20b0 : decide (x29_1 < (t1134.length : Int)) = true := decide_eq_true c20
                  clear c20
                  by_cases c21 : 0 ≤ (rd t1134 x29_1)
                  · rw [if_pos c21] at H
                    have c21b0 : decide (0 ≤ (rd t1134 x29_1)) = true := decide_eq_true c21
                    clear c21
                    by_cases c22 : (rd t1134 x29_1) < (x11_1.length : Int)
                    · rw [if_pos c22] at H
                      have c22b0 : decide ((rd t1134 x29_1) < (x11_1.length : Int)) = true := decide_eq_true c22
                      clear c22
                      obtain ⟨y1144, hy1144⟩ : ∃ y_ : List Int, y_ = (x11_1.set ((rd t1134 x29_1) : Int).toNat (wrap64 ((rd x11_1 (rd t1134 x29_1)) + 1))) := ⟨_, rfl⟩
                      replace H : (impl_Visits.l0 k1 y1144 t1134 (t1134.length : Int) (wrap64 (x29_1 + 1))) = some r := by first | (rw [hy1144]; with_reducible exact H) | (have H2_ := (Option.bind_some _ _).symm.trans H; rw [hy1144]; with_reducible exact H2_) | (have H2_ := (Option.bind_some _ _).symm.trans H; with_reducible exact H2_) | with_reducible exact H | (rw [hy1144]; exact H) | exact H
                      have Ny1144 := Aside0.mk hy1144
                      clear hy1144
                      have H' := Aside0.mk H
                      clear H
                      have p1142 : 0 ≤ (x29_1 : Int) := of_decide_eq_true (by first | (with_reducible assumption) | assumption)
                      have q1142 : x29_1 < (t1134.length : Int) := of_decide_eq_true (by first | (with_reducible assumption) | assumption)
                      obtain ⟨ad1142, e1142, hx1142_0⟩ := Kd.at_int (Kd.R_reads' HO_27.out).2.2 x29_1 p1142 q1142
                      cases e1142
                      replace p1142 := eq_true p1142
                      replace q1142 := eq_true q1142
                      obtain ⟨Ao24, co24, eo24⟩ := Kd.R_slice HO_11.out
                      subst eo24
                      have p1143 : 0 ≤ ((rd t1134 x29_1) : Int) := of_decide_eq_true (by first | (with_reducible assumption) | assumption)
                      have q1143 : (rd t1134 x29_1) < (x11_1.length : Int) := of_decide_eq_true (by first | (with_reducible assumption) | assumption)
                      obtain ⟨ad1143, e1143, hx1143_0⟩ := Kd.at_int (Kd.R_reads' HO_11.out).2.2 (rd t1134 x29_1) p1143 q1143
                      cases e1143
                      replace p1143 := eq_true p1143
                      replace q1143 := eq_true q1143
                      have p23 : 0 ≤ ((rd t1134 x29_1) : Int) := of_decide_eq_true (by first | (with_reducible assumption) | assumption)
                      have q23 : ((rd t1134 x29_1) : Int) < ((x11_1.length : Int) : Int) := of_decide_eq_true (by first | (with_reducible assumption) | assumption)
                      obtain ⟨go23, co23, eo23, gb23, gl23, cl23, HG23⟩ := Kd.R_form HO_11.out (by omega)
                      (first | cases eo23 | (injection eo23 with ea_ en_ ec_; (first | subst ea_ | (injection ea_ with ea_; subst ea_)); subst ec_; clear en_))
                      have GB23 := Aside0.mk gb23
                      have GG23 := Aside0.mk HG23
                      clear gb23 gl23 HG23
                      (first | simp only [add_plain] at hx1143_0 | skip)
                      obtain ⟨hx23_0, hf23_0⟩ := Kd.R_celln 0 HO_11.out ((rd t1134 x29_1) : Int) p23 q23
                      replace p23 := eq_true p23
                      replace q23 := eq_true q23
                      have HP25 := Kd.R_putg HO_11.out ((rd t1134 x29_1) : Int) (wrap64 ((rd x11_1 (rd t1134 x29_1)) + 1))
                      go_wp2_with (first | ((with_reducible refine gate_store (t := 3) (p := 38) rfl ?_); refine store_event (t := 3) (p := 38) (v := ?vo_w26) (w1 := (wr.setCell ⟨go23, ((rd t1134 x29_1) : Int).toNat, none⟩ (.int .i64 (wrap64 ((rd x11_1 (rd t1134 x29_1)) + 1))))) ?hg ?ho ?hn ?hr ?_; (case ho => rfl); (case hg => rfl); (case hn => rfl); (case hr => first | (go_simp; done) | (go_simp; rfl)); intro w26 hw; have hg : wr.grownBy w26 (some go23) := (by rw [hw]; exact HP25.2); have hp_ : Kd.R (Kd.int .i64) 3 w26 w.heap.size (fun k_ => some k_ ≠ (.slice (some ad1142) t1134.length co17 : Value).ownBlock) (.slice (some ⟨go23, 0, none⟩) x11_1.length co24) y1144 := (by rw [hw, Ny1144.out]; exact HP25.1); clear HP25; have n0_ := Aside0.mk (hp_); have n1_ := Aside0.mk (Kd.R_after (v := (.slice (some ⟨go23, 0, none⟩) x11_1.length co24)) (v1 := (.slice (some ⟨go23, 0, none⟩) x11_1.length co24)) (ok := (fun _ => True)) (by (with_reducible repeat (first | apply Kd.R_alloc | apply Kd.R_drewN | apply Kd.R_drew)); exact Kd.R_mono HO_27.out (fun _ hk => ⟨trivial, hk⟩)) hg (.inl rfl)); have n2_ := Aside0.mk (blk_grown (g := gb1133) (o := .cells #[.slice A0_0 l0_0.length c0_0, .slice A0_1 l0_1.length c0_1] 27 (0, 0)) (by (with_reducible repeat (first | refine blk_drewN ?_ _ | refine blk_drew ?_ | refine blk_alloc ?_ _)); exact BK1133.out) hg (Kd.R_ne HO_11.out BK1133.out (by decide))); have n3_ := Aside0.mk ((by rw [hw]; exact below_set (HB.out) GB23.out : Below w.heap.size w w26)); clear HO_11; clear HO_27; clear BK1133; clear HB; have HO_11 := n0_; have HO_27 := n1_; have BK1133 := n2_; have HB := n3_; clear n0_ n1_ n2_ n3_; clear hg hw hp_))
                      go_roundg k1
                      case measure => have := HK1.out; omega
                      case rel => exact ⟨(y1144), (wrap64 (x29_1 + 1)), (by first | rfl | (simp; done) | (simp [*]; done)), H', ⟨by have := HK1.out; omega⟩, ⟨by (with_reducible repeat (first | apply Kd.R_alloc | apply Kd.R_drewN | apply Kd.R_drew)); exact HO_11.out⟩, ⟨by (with_reducible repeat (first | apply Kd.R_alloc | apply Kd.R_drewN | apply Kd.R_drew)); exact Kd.R_mono HO_27.out (fun _ hk => hk.2)⟩, ⟨by (with_reducible repeat (first | refine blk_drewN ?_ _ | refine blk_drew ?_ | refine blk_alloc ?_ _)); exact BK1133.out⟩, ⟨by repeat (first | (with_reducible first | exact HB.out | apply below_alloc | apply pw_below_drewN | apply below_drew1 | refine below_set ?_ GE1133.out) | exact HB.out)⟩⟩
                    · rw [if_neg c22] at H
                      exact absurd H (by simp)
                  · rw [if_neg c21] at H
                    exact absurd H (by simp)
                · rw [if_neg c20] at H
                  exact absurd H (by simp)
              · rw [if_neg c19] at H
                exact absurd H (by simp)
            · rw [if_neg c18] at H
              have c18b0 : decide (x29_1 < (t1134.length : Int)) = false := decide_eq_false c18
              clear c18
              obtain rfl := Option.some.inj H
              go_wp2
              go_ret
              exact ⟨_, by first | rfl | (simp [errW_none, errW_some] <;> rfl) | (simp [*, errW_none, errW_some] <;> rfl), by (with_reducible repeat (first | apply Kd.R_alloc | apply Kd.R_drewN | apply Kd.R_drew)); exact Kd.R_mono HO_11.out (fun _ hk => trivial), by repeat (first | (with_reducible first | exact HB.out | apply below_alloc | apply pw_below_drewN | apply below_drew1 | refine below_set ?_ GE1133.out) | exact HB.out)⟩
      · rw [if_neg c9] at H
        exact absurd H (by simp)
    · rw [if_neg c8] at H
      exact absurd H (by simp)
  · replace c6 := Bool.eq_false_iff.mpr c6
    subst c6
    have H1 : (some ([] : List Int)) = some r := by rw [if_neg (show ¬ (false = true) by decide)] at H; exact H
    clear H
    have H := H1
    clear H1
    obtain rfl := Option.some.inj H
    go_enter Try.func40, Try.ntmps40
    go_wp2_with (first | ((with_reducible refine gate_dst (N := 4) rfl ?_); refine box_event ?hg (N := 4) ?hd (cs := #[.slice A0_0 l0_0.length c0_0, .slice A0_1 l0_1.length c0_1]) (t := 27) ?hr ?_; (case hd => rfl); (case hg => rfl); (case hr => first | (go_simp; done) | (go_simp; rfl)); intro gb1133 hg w27 hbox hb; have n0_ := Aside0.mk (below_step (by repeat (first | (with_reducible first | exact HB.out | apply below_alloc | apply pw_below_drewN | apply below_drew1) | exact HB.out)) hb); have n1_ := Aside0.mk (hbox); have n2_ := Aside0.mk ((by rw [hg]; exact (below_size (by repeat (first | (with_reducible first | exact HB.out | apply below_alloc | apply pw_below_drewN | apply below_drew1) | exact HB.out))) : w.heap.size ≤ gb1133)); have n3_ := Aside0.mk ((by rw [hg]; exact (below_size (by repeat (first | (with_reducible first | exact HB.out | apply below_alloc | apply pw_below_drewN | apply below_drew1) | exact HB.out))) : w.heap.size ≤ gb1133)); clear HB; have HB := n0_; have BK1133 := n1_; have GW1133 := n2_; have GE1133 := n3_; clear n0_ n1_ n2_ n3_; clear hb hbox hg; have hcz28_0 : w27.cell? ⟨gb1133, 0, none⟩ = some (.slice A0_0 l0_0.length c0_0) := (blk_cell BK1133.out 0).trans rfl; have hcz28_1 : w27.cell? ⟨gb1133, 1, none⟩ = some (.slice A0_1 l0_1.length c0_1) := (blk_cell BK1133.out 1).trans rfl; have hfz28_0 := blk_frozen BK1133.out 0; have hfz28_1 := blk_frozen BK1133.out 1) | ((with_reducible refine gate_callee (f := 35) rfl ?_); refine goesL_ (some 19) rfl rfl Try.func35 (by kernel_rfl) rfl #[.agg #[.slice A0_0 l0_0.length c0_0, .slice A0_1 l0_1.length c0_1], .int .i64 a1, .int .i64 a2, .int .i64 a3] rfl (by (try simp only [List.map_toArray, List.map_cons, List.map_nil]); first | done | rfl | (simp only [List.length_drop, List.length_take]; rfl)) ?_; (with_reducible refine (impl_PathSquares.calls k _ _ l0_0 _ _ l0_1 a1 a2 a3 t1134 false _ ?side1 ?side2 ?side3 ?side4 A5.out).mono ?_); (case side1 => repeat (first | exact (Kd.C_below HR0_0.out HB.out) | (with_reducible refine Kd.C_alloc ?_ _) | (with_reducible refine Kd.C_drewN ?_ _) | (with_reducible refine Kd.C_drew ?_))); (case side2 => exact HC0_0.out); (case side3 => repeat (first | exact (Kd.C_below HR0_1.out HB.out) | (with_reducible refine Kd.C_alloc ?_ _) | (with_reducible refine Kd.C_drewN ?_ _) | (with_reducible refine Kd.C_drew ?_))); (case side4 => exact HC0_1.out); rintro e w29 ⟨v1135, rfl, ho0, hb⟩; refine ⟨_, rfl, ?_⟩; have n0_ := Aside0.mk (Kd.R_lower ho0 (below_size (by repeat (first | (with_reducible first | exact HB.out | apply below_alloc | apply pw_below_drewN | apply below_drew1 | refine below_set ?_ GE1133.out) | exact HB.out)))); have n1_ := Aside0.mk (blk_below (g := gb1133) (o := .cells #[.slice A0_0 l0_0.length c0_0, .slice A0_1 l0_1.length c0_1] 27 (0, 0)) (by (with_reducible repeat (first | refine blk_drewN ?_ _ | refine blk_drew ?_ | refine blk_alloc ?_ _)); exact BK1133.out) hb); have n2_ := Aside0.mk (below_step (by repeat (first | (with_reducible first | exact HB.out | apply below_alloc | apply pw_below_drewN | apply below_drew1 | refine below_set ?_ GE1133.out) | exact HB.out)) hb); clear BK1133; clear HB; have HO1136 := n0_; have BK1133 := n1_; have HB := n2_; clear n0_ n1_ n2_; (try clear hb); (try clear hb2); (try clear hk); (try clear hi); (try clear ho0)))
    go_ret
    exact ⟨_, by first | rfl | (simp [errW_none, errW_some] <;> rfl) | (simp [*, errW_none, errW_some] <;> rfl), by first | exact Kd.R_nil _ _ _ _ _ | exact Kd.N_nil _ _ _ _ _ | exact Kd.V_nil _ _ _ _ _ | exact Kd.Q_nil _ _ _ _ _ | exact Kd.S_nil _ _ _ _ _, by repeat (first | (with_reducible first | exact HB.out | apply below_alloc | apply pw_below_drewN | apply below_drew1 | refine below_set ?_ GE1133.out) | exact HB.out)⟩
end Go.Proofs.Ytbdnellgioimbaa.A
end
section
/- What a call made lies apart from what was there. No conditions. -/
namespace Go.Proofs.Ytbdnellgioimbaa.M
open Go.RowKit Go.Proofs.YtbdnellgioimbaaW.PrintWords Go.Proofs.YtbdnellgioimbaaW.PrintLast Go.Proofs.YtbdnellgioimbaaW.PrintMore
theorem fresh_R {α : Type} {d : Kd α} {e b b0 : Nat} {w : World} {ok : Nat → Prop} {v : Value} {xs : List α} (h : d.R e w b ok v xs) (hb : b0 ≤ b) : d.R e w b0 (fun k => b ≤ k ∧ k < w.heap.size) v xs :=
  Kd.R_lower (Kd.R_mono (Kd.R_bound h) (fun _ hk => ⟨hk.2.1, hk.2.2.1⟩)) hb
theorem box_store {w0 W : World} {g t : Nat} {cs : Array Value} (hb : W.heap[g]? = some (.cells cs t (0, 0))) (x y : Value) (hB : Below w0.heap.size w0 W) (hg : w0.heap.size ≤ g) :
    ((W.setCell ⟨g, 0, none⟩ x).setCell ⟨g, 1, none⟩ y).heap[g]? = some (.cells ((cs.setIfInBounds 0 x).setIfInBounds 1 y) t (0, 0)) ∧ Kept W ((W.setCell ⟨g, 0, none⟩ x).setCell ⟨g, 1, none⟩ y) (fun k => k = g) ∧ Below w0.heap.size w0 ((W.setCell ⟨g, 0, none⟩ x).setCell ⟨g, 1, none⟩ y) :=
  ⟨blk_set (blk_set hb 0 x) 1 y, Kept.setCell (p := ⟨g, 1, none⟩) (Kept.setCell (p := ⟨g, 0, none⟩) (Kept.refl W (fun k => k = g)) (.inl rfl) x) (.inl rfl) y, below_set (below_set hB hg) hg⟩
end Go.Proofs.Ytbdnellgioimbaa.M
end
section
namespace Go.Proofs.Ytbdnellgioimbaa.A
open Go.RowKit Go.Proofs.YtbdnellgioimbaaW.PrintWords Go.Proofs.YtbdnellgioimbaaW.PrintLast Go.Proofs.YtbdnellgioimbaaW.PrintMore Go.Proofs.Ytbdnellgioimbaa.M
set_option linter.unusedVariables false
set_option linter.unusedSimpArgs false
def laws_FnExactVisits.F (k : Nat) (l0_0 : List Int) (l0_1 : List Int) (a1 : Int) (a2 : Int) (a3 : Int) : Prop := ∃ s0 : Int, laws_szSurface.f l0_0 l0_1 1048576 = some s0 ∧ (s0 < 0 ∨ (¬ s0 < 0 ∧ (∃ (r0 : List Int) (km0 : Int) (ya0 yb0 : List Int) (m0 : Int) (z0 : List Int), laws_toSurface.f k l0_0 l0_1 = some (l0_0, l0_1) ∧ laws_eqSurface.f k l0_0 l0_1 l0_0 l0_1 = some true ∧ spec_Visits.f k l0_0 l0_1 a1 a2 a3 = some r0 ∧ impl_Visits.f k l0_0 l0_1 a1 a2 a3 = some r0 ∧ laws_eqIntS.f k r0 r0 = some true ∧ laws_markSurface.f k l0_0 l0_1 1 = some (km0, ya0, yb0) ∧ decide (km0 < 0) = false ∧ laws_markIntS.f k r0 1 = some (m0, z0) ∧ laws_heldIntS.f k z0 1 = some m0 ∧ decide (m0 < 0) = false)))
set_option maxHeartbeats 8000000 in
set_option maxRecDepth 100000 in
theorem laws_FnExactVisits.calls (k : Nat) (A0_0 : Option Addr) (c0_0 : Nat) (l0_0 : List Int) (A0_1 : Option Addr) (c0_1 : Nat) (l0_1 : List Int) (a1 : Int) (a2 : Int) (a3 : Int) (w : World) (hr0_0 : Kd.C (Kd.int .i64) w A0_0 l0_0.length l0_0) (hc0_0 : l0_0.length ≤ c0_0) (hr0_1 : Kd.C (Kd.int .i64) w A0_1 l0_1.length l0_1) (hc0_1 : l0_1.length ≤ c0_1) (h : laws_FnExactVisits.F k l0_0 l0_1 a1 a2 a3) :
    Calls Try.prog 9 #[.agg #[.slice A0_0 l0_0.length c0_0, .slice A0_1 l0_1.length c0_1], .int .i64 a1, .int .i64 a2, .int .i64 a3] w fun e w' => e = .returned (.bool true) ∧ Below w.heap.size w w' := by
  have hu24 := Try.underlying24
  have hu27 := Try.underlying27
  have HR0_0 := Aside0.mk hr0_0; have HC0_0 := Aside0.mk hc0_0; clear hr0_0 hc0_0
  have HR0_1 := Aside0.mk hr0_1; have HC0_1 := Aside0.mk hc0_1; clear hr0_1 hc0_1
  have HB := Aside0.mk (Below.refl w.heap.size w)
  unfold laws_FnExactVisits.F at h
  obtain ⟨s0, FZ0, h⟩ := h
  replace FZ0 := Aside0.mk FZ0
  rcases h with hneg | ⟨hneg, h⟩
  · have hq0 : decide (s0 < 0) = true := decide_eq_true hneg
    go_enter Try.func9, Try.ntmps9
    go_upto_region 2 with (first | ((with_reducible refine gate_dst (N := 4) rfl ?_); refine box_event ?hg (N := 4) ?hd (cs := #[.slice A0_0 l0_0.length c0_0, .slice A0_1 l0_1.length c0_1]) (t := 24) ?hr ?_; (case hd => rfl); (case hg => rfl); (case hr => first | (go_simp; done) | (go_simp; rfl)); intro gbp0 hg w1 hbox hb; have HBo := HB.out; have n_ := Aside0.mk (below_then HBo HBo.size hb); clear HB; have HB := n_; clear n_; have HSw1 := Aside0.mk hb.size; have BKp0 := Aside0.mk hbox; have GIp0 := Aside0.mk (show w.heap.size ≤ gbp0 ∧ gbp0 < w1.heap.size from ⟨by omega, blk_lt hbox⟩); have GEp0 := Aside0.mk (show w.heap.size ≤ gbp0 from by have := HBo.size; omega); clear hb hbox hg HBo; have hczp0_0 : w1.cell? ⟨gbp0, 0, none⟩ = some (.slice A0_0 l0_0.length c0_0) := (blk_cell BKp0.out 0).trans rfl; have hczp0_1 : w1.cell? ⟨gbp0, 1, none⟩ = some (.slice A0_1 l0_1.length c0_1) := (blk_cell BKp0.out 1).trans rfl; have hfzp0_0 := blk_frozen BKp0.out 0; have hfzp0_1 := blk_frozen BKp0.out 1))
    go_wp2_with (first | ((with_reducible refine gate_callee (f := 14) rfl ?_); refine goesL_ _ rfl rfl Try.func14 (by kernel_rfl) rfl #[.agg #[.slice A0_0 l0_0.length c0_0, .slice A0_1 l0_1.length c0_1], .int .i64 1048576] rfl (by (try simp only [List.map_toArray, List.map_cons, List.map_nil]); first | done | rfl) ?_; have HBo := HB.out; refine (laws_szSurface.calls A0_0 c0_0 l0_0 A0_1 c0_1 l0_1 1048576 s0 _ (Kd.C_below HR0_0.out HB.out) HC0_0.out (Kd.C_below HR0_1.out HB.out) HC0_1.out FZ0.out).mono ?_; rintro e w2 ⟨rfl, hb0⟩; refine ⟨_, rfl, ?_⟩; clear hczp0_0 hfzp0_0 hczp0_1 hfzp0_1; have n_ := Aside0.mk (blk_below BKp0.out hb0); clear BKp0; have BKp0 := n_; clear n_; have n_ := Aside0.mk (below_then HBo HBo.size hb0); clear HB; have HB := n_; clear n_; have HSw2 := Aside0.mk hb0.size; clear hb0 HBo; have hczp0_0 : w2.cell? ⟨gbp0, 0, none⟩ = some (.slice A0_0 l0_0.length c0_0) := (blk_cell BKp0.out 0).trans rfl; have hczp0_1 : w2.cell? ⟨gbp0, 1, none⟩ = some (.slice A0_1 l0_1.length c0_1) := (blk_cell BKp0.out 1).trans rfl; have hfzp0_0 := blk_frozen BKp0.out 0; have hfzp0_1 := blk_frozen BKp0.out 1))
    go_ret
    exact ⟨rfl, HB.out⟩
  have hq0 : decide (s0 < 0) = false := decide_eq_false hneg
  clear hneg
  obtain ⟨r0, km0, ya0, yb0, m0, z0, FS0, FE0, FW, FG, FQ0, FK0, FKK, FM0, FH0, FMM0⟩ := h
  replace FS0 := Aside0.mk FS0
  replace FE0 := Aside0.mk FE0
  replace FW := Aside0.mk FW
  replace FG := Aside0.mk FG
  replace FQ0 := Aside0.mk FQ0
  replace FK0 := Aside0.mk FK0
  replace FM0 := Aside0.mk FM0
  replace FH0 := Aside0.mk FH0
  go_enter Try.func9, Try.ntmps9
  go_upto_region 2 with (first | ((with_reducible refine gate_dst (N := 4) rfl ?_); refine box_event ?hg (N := 4) ?hd (cs := #[.slice A0_0 l0_0.length c0_0, .slice A0_1 l0_1.length c0_1]) (t := 24) ?hr ?_; (case hd => rfl); (case hg => rfl); (case hr => first | (go_simp; done) | (go_simp; rfl)); intro gbp0 hg w1 hbox hb; have HBo := HB.out; have n_ := Aside0.mk (below_then HBo HBo.size hb); clear HB; have HB := n_; clear n_; have HSw1 := Aside0.mk hb.size; have BKp0 := Aside0.mk hbox; have GIp0 := Aside0.mk (show w.heap.size ≤ gbp0 ∧ gbp0 < w1.heap.size from ⟨by omega, blk_lt hbox⟩); have GEp0 := Aside0.mk (show w.heap.size ≤ gbp0 from by have := HBo.size; omega); clear hb hbox hg HBo; have hczp0_0 : w1.cell? ⟨gbp0, 0, none⟩ = some (.slice A0_0 l0_0.length c0_0) := (blk_cell BKp0.out 0).trans rfl; have hczp0_1 : w1.cell? ⟨gbp0, 1, none⟩ = some (.slice A0_1 l0_1.length c0_1) := (blk_cell BKp0.out 1).trans rfl; have hfzp0_0 := blk_frozen BKp0.out 0; have hfzp0_1 := blk_frozen BKp0.out 1))
  go_upto_region 5 with (first | ((with_reducible refine gate_callee (f := 14) rfl ?_); refine goesL_ _ rfl rfl Try.func14 (by kernel_rfl) rfl #[.agg #[.slice A0_0 l0_0.length c0_0, .slice A0_1 l0_1.length c0_1], .int .i64 1048576] rfl (by (try simp only [List.map_toArray, List.map_cons, List.map_nil]); first | done | rfl) ?_; have HBo := HB.out; refine (laws_szSurface.calls A0_0 c0_0 l0_0 A0_1 c0_1 l0_1 1048576 s0 _ (Kd.C_below HR0_0.out HB.out) HC0_0.out (Kd.C_below HR0_1.out HB.out) HC0_1.out FZ0.out).mono ?_; rintro e w2 ⟨rfl, hb0⟩; refine ⟨_, rfl, ?_⟩; clear hczp0_0 hfzp0_0 hczp0_1 hfzp0_1; have n_ := Aside0.mk (blk_below BKp0.out hb0); clear BKp0; have BKp0 := n_; clear n_; have n_ := Aside0.mk (below_then HBo HBo.size hb0); clear HB; have HB := n_; clear n_; have HSw2 := Aside0.mk hb0.size; clear hb0 HBo; have hczp0_0 : w2.cell? ⟨gbp0, 0, none⟩ = some (.slice A0_0 l0_0.length c0_0) := (blk_cell BKp0.out 0).trans rfl; have hczp0_1 : w2.cell? ⟨gbp0, 1, none⟩ = some (.slice A0_1 l0_1.length c0_1) := (blk_cell BKp0.out 1).trans rfl; have hfzp0_0 := blk_frozen BKp0.out 0; have hfzp0_1 := blk_frozen BKp0.out 1))
  go_upto_region 6 with (first | ((with_reducible refine gate_callee (f := 16) rfl ?_); refine goesL_ _ rfl rfl Try.func16 (by kernel_rfl) rfl #[.agg #[.slice A0_0 l0_0.length c0_0, .slice A0_1 l0_1.length c0_1]] rfl (by (try simp only [List.map_toArray, List.map_cons, List.map_nil]); first | done | rfl) ?_; have HBo := HB.out; refine (laws_toSurface.calls k A0_0 c0_0 l0_0 A0_1 c0_1 l0_1 l0_0 l0_1 _ (Kd.C_below HR0_0.out HB.out) HC0_0.out (Kd.C_below HR0_1.out HB.out) HC0_1.out FS0.out).mono ?_; rintro e w3 ⟨v0_, v1_, rfl, h0_, h1_, hb0⟩; refine ⟨_, rfl, ?_⟩; clear hczp0_0 hfzp0_0 hczp0_1 hfzp0_1; have n_ := Aside0.mk (blk_below BKp0.out hb0); clear BKp0; have BKp0 := n_; clear n_; have n_ := Aside0.mk (below_then HBo HBo.size hb0); clear HB; have HB := n_; clear n_; have HSw3 := Aside0.mk hb0.size; have NE1 := Aside0.mk h0_.1; have Hx1a := Aside0.mk (fresh_R (b0 := w.heap.size) h0_ HBo.size); clear h0_; obtain ⟨Ax1a, cx1a, ex1a⟩ := Kd.R_slice Hx1a.out; subst ex1a; have Hx1b := Aside0.mk (fresh_R (b0 := w.heap.size) h1_ HBo.size); clear h1_; obtain ⟨Ax1b, cx1b, ex1b⟩ := Kd.R_slice Hx1b.out; subst ex1b; clear hb0 HBo; have hczp0_0 : w3.cell? ⟨gbp0, 0, none⟩ = some (.slice A0_0 l0_0.length c0_0) := (blk_cell BKp0.out 0).trans rfl; have hczp0_1 : w3.cell? ⟨gbp0, 1, none⟩ = some (.slice A0_1 l0_1.length c0_1) := (blk_cell BKp0.out 1).trans rfl; have hfzp0_0 := blk_frozen BKp0.out 0; have hfzp0_1 := blk_frozen BKp0.out 1) | ((with_reducible refine gate_callee (f := 39) rfl ?_); refine goesL_ _ rfl rfl Try.func39 (by kernel_rfl) rfl #[.agg #[.slice Ax1a l0_0.length cx1a, .slice Ax1b l0_1.length cx1b], .int .i64 a1, .int .i64 a2, .int .i64 a3] rfl (by (try simp only [List.map_toArray, List.map_cons, List.map_nil]); first | done | rfl) ?_; have HBo := HB.out; refine (spec_Visits.calls k Ax1a cx1a l0_0 Ax1b cx1b l0_1 a1 a2 a3 r0 _ (Kd.R_reads' Hx1a.out).2.2 (Kd.R_reads' Hx1a.out).2.1 (Kd.R_reads' Hx1b.out).2.2 (Kd.R_reads' Hx1b.out).2.1 FW.out).mono ?_; rintro e w4 ⟨v0_, rfl, h0_, hb0⟩; refine ⟨_, rfl, ?_⟩; clear hczp0_0 hfzp0_0 hczp0_1 hfzp0_1; have n_ := Aside0.mk (blk_below BKp0.out hb0); clear BKp0; have BKp0 := n_; clear n_; have n_ := Aside0.mk (Kd.R_below Hx1a.out hb0); clear Hx1a; have Hx1a := n_; clear n_; have n_ := Aside0.mk (Kd.R_below Hx1b.out hb0); clear Hx1b; have Hx1b := n_; clear n_; have n_ := Aside0.mk (below_then HBo HBo.size hb0); clear HB; have HB := n_; clear n_; have HSw4 := Aside0.mk hb0.size; have Hw0 := Aside0.mk (fresh_R (b0 := w.heap.size) h0_ HBo.size); clear h0_; obtain ⟨Aw0, cw0, ew0⟩ := Kd.R_slice Hw0.out; subst ew0; clear hb0 HBo; have hczp0_0 : w4.cell? ⟨gbp0, 0, none⟩ = some (.slice A0_0 l0_0.length c0_0) := (blk_cell BKp0.out 0).trans rfl; have hczp0_1 : w4.cell? ⟨gbp0, 1, none⟩ = some (.slice A0_1 l0_1.length c0_1) := (blk_cell BKp0.out 1).trans rfl; have hfzp0_0 := blk_frozen BKp0.out 0; have hfzp0_1 := blk_frozen BKp0.out 1; clear Hx1a Hx1b))
  go_upto_region 7 with (first | ((with_reducible refine gate_callee (f := 16) rfl ?_); refine goesL_ _ rfl rfl Try.func16 (by kernel_rfl) rfl #[.agg #[.slice A0_0 l0_0.length c0_0, .slice A0_1 l0_1.length c0_1]] rfl (by (try simp only [List.map_toArray, List.map_cons, List.map_nil]); first | done | rfl) ?_; have HBo := HB.out; refine (laws_toSurface.calls k A0_0 c0_0 l0_0 A0_1 c0_1 l0_1 l0_0 l0_1 _ (Kd.C_below HR0_0.out HB.out) HC0_0.out (Kd.C_below HR0_1.out HB.out) HC0_1.out FS0.out).mono ?_; rintro e w5 ⟨v0_, v1_, rfl, h0_, h1_, hb0⟩; refine ⟨_, rfl, ?_⟩; clear hczp0_0 hfzp0_0 hczp0_1 hfzp0_1; have n_ := Aside0.mk (blk_below BKp0.out hb0); clear BKp0; have BKp0 := n_; clear n_; have n_ := Aside0.mk (Kd.R_below Hw0.out hb0); clear Hw0; have Hw0 := n_; clear n_; have n_ := Aside0.mk (below_then HBo HBo.size hb0); clear HB; have HB := n_; clear n_; have HSw5 := Aside0.mk hb0.size; have NE2 := Aside0.mk h0_.1; have Hx2a := Aside0.mk (fresh_R (b0 := w.heap.size) h0_ HBo.size); clear h0_; obtain ⟨Ax2a, cx2a, ex2a⟩ := Kd.R_slice Hx2a.out; subst ex2a; have Hx2b := Aside0.mk (fresh_R (b0 := w.heap.size) h1_ HBo.size); clear h1_; obtain ⟨Ax2b, cx2b, ex2b⟩ := Kd.R_slice Hx2b.out; subst ex2b; clear hb0 HBo; have hczp0_0 : w5.cell? ⟨gbp0, 0, none⟩ = some (.slice A0_0 l0_0.length c0_0) := (blk_cell BKp0.out 0).trans rfl; have hczp0_1 : w5.cell? ⟨gbp0, 1, none⟩ = some (.slice A0_1 l0_1.length c0_1) := (blk_cell BKp0.out 1).trans rfl; have hfzp0_0 := blk_frozen BKp0.out 0; have hfzp0_1 := blk_frozen BKp0.out 1) | ((with_reducible refine gate_dst (N := 11) rfl ?_); refine box_event ?hg (N := 11) ?hd (cs := #[.slice none 0 0, .slice none 0 0]) (t := 27) ?hr ?_; (case hd => rfl); (case hg => rfl); (case hr => first | (go_simp; done) | (go_simp; rfl)); intro gbx0 hg w6 hbox hb; clear hczp0_0 hfzp0_0 hczp0_1 hfzp0_1; have HBo := HB.out; have n_ := Aside0.mk (blk_below BKp0.out hb); clear BKp0; have BKp0 := n_; clear n_; have n_ := Aside0.mk (Kd.R_below Hw0.out hb); clear Hw0; have Hw0 := n_; clear n_; have n_ := Aside0.mk (Kd.R_below Hx2a.out hb); clear Hx2a; have Hx2a := n_; clear n_; have n_ := Aside0.mk (Kd.R_below Hx2b.out hb); clear Hx2b; have Hx2b := n_; clear n_; have n_ := Aside0.mk (below_then HBo HBo.size hb); clear HB; have HB := n_; clear n_; have HSw6 := Aside0.mk hb.size; have BKx0 := Aside0.mk hbox; have GIx0 := Aside0.mk (show w5.heap.size ≤ gbx0 ∧ gbx0 < w6.heap.size from ⟨by omega, blk_lt hbox⟩); have GEx0 := Aside0.mk (show w.heap.size ≤ gbx0 from by have := HBo.size; omega); clear hb hbox hg HBo; have hczp0_0 : w6.cell? ⟨gbp0, 0, none⟩ = some (.slice A0_0 l0_0.length c0_0) := (blk_cell BKp0.out 0).trans rfl; have hczp0_1 : w6.cell? ⟨gbp0, 1, none⟩ = some (.slice A0_1 l0_1.length c0_1) := (blk_cell BKp0.out 1).trans rfl; have hfzp0_0 := blk_frozen BKp0.out 0; have hfzp0_1 := blk_frozen BKp0.out 1; have hczx0_0 : w6.cell? ⟨gbx0, 0, none⟩ = some (.slice none 0 0) := (blk_cell BKx0.out 0).trans rfl; have hczx0_1 : w6.cell? ⟨gbx0, 1, none⟩ = some (.slice none 0 0) := (blk_cell BKx0.out 1).trans rfl; have hfzx0_0 := blk_frozen BKx0.out 0; have hfzx0_1 := blk_frozen BKx0.out 1) | ((with_reducible refine gate_store (t := 27) (p := 11) rfl ?_); refine store_event (t := 27) (p := 11) (v := ?vo) (w1 := ((w6.setCell ⟨gbx0, 0, none⟩ (.slice Ax2a l0_0.length cx2a)).setCell ⟨gbx0, 1, none⟩ (.slice Ax2b l0_1.length cx2b))) ?hg ?ho ?hn ?hr ?_; (case ho => rfl); (case hg => rfl); (case hn => rfl); (case hr => first | (go_simp; done) | (go_simp; rfl)); intro wq hw; subst hw; obtain ⟨hbox, hkp, hB2⟩ := box_store BKx0.out (.slice Ax2a l0_0.length cx2a) (.slice Ax2b l0_1.length cx2b) HB.out GEx0.out; generalize hw : ((w6.setCell ⟨gbx0, 0, none⟩ (.slice Ax2a l0_0.length cx2a)).setCell ⟨gbx0, 1, none⟩ (.slice Ax2b l0_1.length cx2b)) = w7 at hbox hkp hB2 ⊢; clear hw; clear hczp0_0 hfzp0_0 hczp0_1 hfzp0_1 hczx0_0 hfzx0_0 hczx0_1 hfzx0_1; have n_ := Aside0.mk (blk_kept (g := gbp0) BKp0.out hkp (fun hs => by have hk := GIp0.out; have := hk.1; have := hk.2; have := GIx0.out; have := HSw1.out; have := HSw2.out; have := HSw3.out; have := HSw4.out; have := HSw5.out; have := HSw6.out; omega)); clear BKp0; have BKp0 := n_; clear n_; have n_ := Aside0.mk (Kd.R_kept Hw0.out hkp (fun k_ hk hs => by have := hk.1; have := hk.2; have := GIx0.out; have := HSw1.out; have := HSw2.out; have := HSw3.out; have := HSw4.out; have := HSw5.out; have := HSw6.out; omega)); clear Hw0; have Hw0 := n_; clear n_; have n_ := Aside0.mk (Kd.R_kept Hx2a.out hkp (fun k_ hk hs => by have := hk.1; have := hk.2; have := GIx0.out; have := HSw1.out; have := HSw2.out; have := HSw3.out; have := HSw4.out; have := HSw5.out; have := HSw6.out; omega)); clear Hx2a; have Hx2a := n_; clear n_; have n_ := Aside0.mk (Kd.R_kept Hx2b.out hkp (fun k_ hk hs => by have := hk.1; have := hk.2; have := GIx0.out; have := HSw1.out; have := HSw2.out; have := HSw3.out; have := HSw4.out; have := HSw5.out; have := HSw6.out; omega)); clear Hx2b; have Hx2b := n_; clear n_; have n_ := Aside0.mk (hB2); clear HB; have HB := n_; clear n_; have HSw7 := Aside0.mk hkp.1; clear BKx0; have BKx0 := Aside0.mk (show w7.heap[gbx0]? = some (.cells #[.slice Ax2a l0_0.length cx2a, .slice Ax2b l0_1.length cx2b] 27 (0, 0)) from hbox); clear hbox hkp hB2; have hczp0_0 : w7.cell? ⟨gbp0, 0, none⟩ = some (.slice A0_0 l0_0.length c0_0) := (blk_cell BKp0.out 0).trans rfl; have hczp0_1 : w7.cell? ⟨gbp0, 1, none⟩ = some (.slice A0_1 l0_1.length c0_1) := (blk_cell BKp0.out 1).trans rfl; have hfzp0_0 := blk_frozen BKp0.out 0; have hfzp0_1 := blk_frozen BKp0.out 1; have hczx0_0 : w7.cell? ⟨gbx0, 0, none⟩ = some (.slice Ax2a l0_0.length cx2a) := (blk_cell BKx0.out 0).trans rfl; have hczx0_1 : w7.cell? ⟨gbx0, 1, none⟩ = some (.slice Ax2b l0_1.length cx2b) := (blk_cell BKx0.out 1).trans rfl; have hfzx0_0 := blk_frozen BKx0.out 0; have hfzx0_1 := blk_frozen BKx0.out 1))
  go_upto_region 8 with (first | ((with_reducible refine gate_callee (f := 40) rfl ?_); refine goesL_ _ rfl rfl Try.func40 (by kernel_rfl) rfl #[.agg #[.slice Ax2a l0_0.length cx2a, .slice Ax2b l0_1.length cx2b], .int .i64 a1, .int .i64 a2, .int .i64 a3] rfl (by (try simp only [List.map_toArray, List.map_cons, List.map_nil]); first | done | rfl) ?_; have HBo := HB.out; refine (impl_Visits.calls k Ax2a cx2a l0_0 Ax2b cx2b l0_1 a1 a2 a3 r0 _ (Kd.R_reads' Hx2a.out).2.2 (Kd.R_reads' Hx2a.out).2.1 (Kd.R_reads' Hx2b.out).2.2 (Kd.R_reads' Hx2b.out).2.1 FG.out).mono ?_; rintro e w8 ⟨v0_, rfl, h0_, hb0⟩; refine ⟨_, rfl, ?_⟩; clear hczp0_0 hfzp0_0 hczp0_1 hfzp0_1 hczx0_0 hfzx0_0 hczx0_1 hfzx0_1; have n_ := Aside0.mk (blk_below BKp0.out hb0); clear BKp0; have BKp0 := n_; clear n_; have n_ := Aside0.mk (Kd.R_below Hw0.out hb0); clear Hw0; have Hw0 := n_; clear n_; have n_ := Aside0.mk (Kd.R_below Hx2a.out hb0); clear Hx2a; have Hx2a := n_; clear n_; have n_ := Aside0.mk (Kd.R_below Hx2b.out hb0); clear Hx2b; have Hx2b := n_; clear n_; have n_ := Aside0.mk (blk_below BKx0.out hb0); clear BKx0; have BKx0 := n_; clear n_; have n_ := Aside0.mk (below_then HBo HBo.size hb0); clear HB; have HB := n_; clear n_; have HSw8 := Aside0.mk hb0.size; have Hg0 := Aside0.mk (fresh_R (b0 := w.heap.size) h0_ HBo.size); clear h0_; obtain ⟨Ag0, cg0, eg0⟩ := Kd.R_slice Hg0.out; subst eg0; clear hb0 HBo; have hczp0_0 : w8.cell? ⟨gbp0, 0, none⟩ = some (.slice A0_0 l0_0.length c0_0) := (blk_cell BKp0.out 0).trans rfl; have hczp0_1 : w8.cell? ⟨gbp0, 1, none⟩ = some (.slice A0_1 l0_1.length c0_1) := (blk_cell BKp0.out 1).trans rfl; have hfzp0_0 := blk_frozen BKp0.out 0; have hfzp0_1 := blk_frozen BKp0.out 1; have hczx0_0 : w8.cell? ⟨gbx0, 0, none⟩ = some (.slice Ax2a l0_0.length cx2a) := (blk_cell BKx0.out 0).trans rfl; have hczx0_1 : w8.cell? ⟨gbx0, 1, none⟩ = some (.slice Ax2b l0_1.length cx2b) := (blk_cell BKx0.out 1).trans rfl; have hfzx0_0 := blk_frozen BKx0.out 0; have hfzx0_1 := blk_frozen BKx0.out 1))
  go_upto_region 10 with (first | ((with_reducible refine gate_callee (f := 36) rfl ?_); refine goesL_ _ rfl rfl Try.func36 (by kernel_rfl) rfl #[.slice Ag0 r0.length cg0, .slice Aw0 r0.length cw0] rfl (by (try simp only [List.map_toArray, List.map_cons, List.map_nil]); first | done | rfl) ?_; have HBo := HB.out; refine (laws_eqIntS.calls k Ag0 cg0 r0 Aw0 cw0 r0 true _ (Kd.R_reads' Hg0.out).2.2 (Kd.R_reads' Hg0.out).2.1 (Kd.R_reads' Hw0.out).2.2 (Kd.R_reads' Hw0.out).2.1 FQ0.out).mono ?_; rintro e w9 ⟨rfl, hd⟩; refine ⟨_, rfl, ?_⟩; clear hczp0_0 hfzp0_0 hczp0_1 hfzp0_1 hczx0_0 hfzx0_0 hczx0_1 hfzx0_1; replace hd := Drawn0.below hd; have n_ := Aside0.mk (blk_below BKp0.out hd); clear BKp0; have BKp0 := n_; clear n_; have n_ := Aside0.mk (Kd.R_below Hw0.out hd); clear Hw0; have Hw0 := n_; clear n_; have n_ := Aside0.mk (Kd.R_below Hx2a.out hd); clear Hx2a; have Hx2a := n_; clear n_; have n_ := Aside0.mk (Kd.R_below Hx2b.out hd); clear Hx2b; have Hx2b := n_; clear n_; have n_ := Aside0.mk (blk_below BKx0.out hd); clear BKx0; have BKx0 := n_; clear n_; have n_ := Aside0.mk (Kd.R_below Hg0.out hd); clear Hg0; have Hg0 := n_; clear n_; have n_ := Aside0.mk (below_then HBo HBo.size hd); clear HB; have HB := n_; clear n_; have HSw9 := Aside0.mk hd.size; clear hd HBo; have hczp0_0 : w9.cell? ⟨gbp0, 0, none⟩ = some (.slice A0_0 l0_0.length c0_0) := (blk_cell BKp0.out 0).trans rfl; have hczp0_1 : w9.cell? ⟨gbp0, 1, none⟩ = some (.slice A0_1 l0_1.length c0_1) := (blk_cell BKp0.out 1).trans rfl; have hfzp0_0 := blk_frozen BKp0.out 0; have hfzp0_1 := blk_frozen BKp0.out 1; have hczx0_0 : w9.cell? ⟨gbx0, 0, none⟩ = some (.slice Ax2a l0_0.length cx2a) := (blk_cell BKx0.out 0).trans rfl; have hczx0_1 : w9.cell? ⟨gbx0, 1, none⟩ = some (.slice Ax2b l0_1.length cx2b) := (blk_cell BKx0.out 1).trans rfl; have hfzx0_0 := blk_frozen BKx0.out 0; have hfzx0_1 := blk_frozen BKx0.out 1))
  clear hczp0_0 hfzp0_0 hczp0_1 hfzp0_1 hczx0_0 hfzx0_0 hczx0_1 hfzx0_1
  have n_ := Aside0.mk (blk_drew BKp0.out)
  clear BKp0
  have BKp0 := n_
  clear n_
  have n_ := Aside0.mk (Kd.R_drew Hw0.out)
  clear Hw0
  have Hw0 := n_
  clear n_
  have n_ := Aside0.mk (Kd.R_drew Hx2a.out)
  clear Hx2a
  have Hx2a := n_
  clear n_
  have n_ := Aside0.mk (Kd.R_drew Hx2b.out)
  clear Hx2b
  have Hx2b := n_
  clear n_
  have n_ := Aside0.mk (blk_drew BKx0.out)
  clear BKx0
  have BKx0 := n_
  clear n_
  have n_ := Aside0.mk (Kd.R_drew Hg0.out)
  clear Hg0
  have Hg0 := n_
  clear n_
  have n_ := Aside0.mk (below_drew1 HB.out)
  clear HB
  have HB := n_
  clear n_
  have HSw11 := Aside0.mk (show w9.heap.size ≤ w9.drew.heap.size from Nat.le_refl _)
  refine start_ (n := 5) (S := fun w' => w'.cell? ⟨gbp0, 0, none⟩ = some (.slice A0_0 l0_0.length c0_0) ∧ w'.cell? ⟨gbp0, 1, none⟩ = some (.slice A0_1 l0_1.length c0_1) ∧ w'.cell? ⟨gbx0, 0, none⟩ = some (.slice Ax2a l0_0.length cx2a) ∧ w'.cell? ⟨gbx0, 1, none⟩ = some (.slice Ax2b l0_1.length cx2b)) (ds := []) #[false, false, false, false, false] (by kernel_rfl) rfl rfl ⟨(blk_cell BKp0.out 0).trans rfl, (blk_cell BKp0.out 1).trans rfl, (blk_cell BKx0.out 0).trans rfl, (blk_cell BKx0.out 1).trans rfl⟩ (fun hHeld => ?_)
  generalize hwd : w9.drew = w11 at BKp0 Hw0 Hx2a Hx2b BKx0 Hg0 HB HSw11 hHeld ⊢
  clear hwd
  refine take_ (i := 0) (N := some 39) (v := ?_) (a' := ?_) #[true, false, false, false, false] rfl rfl (by kernel_rfl) (fun _ _ _ h => h) (Or.inl ⟨by rfl, ?_⟩) hHeld ?_ ?_
  rotate_left
  · rintro w' ⟨s0, s1, s2, s3⟩
    go_simp
    with_reducible rfl
  rotate_left
  · simp only [Act.put, List.setIfInBounds_toArray, List.set_cons_zero, List.set_cons_succ, i64_w, i32_w]
    rfl
  refine take_ (i := 1) (N := some 40) (v := ?_) (a' := ?_) #[true, true, false, false, false] rfl rfl (by kernel_rfl) (fun _ _ _ h => h) (Or.inl ⟨by rfl, ?_⟩) hHeld ?_ ?_
  rotate_left
  · rintro w' ⟨s0, s1, s2, s3⟩
    go_simp
    with_reducible rfl
  rotate_left
  · simp only [Act.put, List.setIfInBounds_toArray, List.set_cons_zero, List.set_cons_succ, i64_w, i32_w]
    rfl
  refine one_ (i := 2) (N := some 41) #[true, true, true, false, false] rfl rfl (by kernel_rfl) (by decide) (fun K hK => ?_)
  replace hK := Aside0.mk hK
  refine goes_ Try.func16 (by kernel_rfl) rfl #[.agg #[.slice A0_0 l0_0.length c0_0, .slice A0_1 l0_1.length c0_1]] (by rfl) rfl rfl (by (try simp only [List.map_toArray, List.map_cons, List.map_nil]); first | done | rfl) ?_
  have HBo := HB.out
  refine (laws_toSurface.calls k A0_0 c0_0 l0_0 A0_1 c0_1 l0_1 l0_0 l0_1 _ (Kd.C_below HR0_0.out HB.out) HC0_0.out (Kd.C_below HR0_1.out HB.out) HC0_1.out FS0.out).mono ?_
  rintro e w12 ⟨v0_, v1_, rfl, h0_, h1_, hb0⟩
  refine ⟨_, rfl, ?_⟩
  clear hHeld
  have n_ := Aside0.mk (blk_below BKp0.out hb0)
  clear BKp0
  have BKp0 := n_
  clear n_
  have n_ := Aside0.mk (Kd.R_below Hw0.out hb0)
  clear Hw0
  have Hw0 := n_
  clear n_
  have n_ := Aside0.mk (Kd.R_below Hx2a.out hb0)
  clear Hx2a
  have Hx2a := n_
  clear n_
  have n_ := Aside0.mk (Kd.R_below Hx2b.out hb0)
  clear Hx2b
  have Hx2b := n_
  clear n_
  have n_ := Aside0.mk (blk_below BKx0.out hb0)
  clear BKx0
  have BKx0 := n_
  clear n_
  have n_ := Aside0.mk (Kd.R_below Hg0.out hb0)
  clear Hg0
  have Hg0 := n_
  clear n_
  have n_ := Aside0.mk (below_then HBo HBo.size hb0)
  clear HB
  have HB := n_
  clear n_
  have HSw12 := Aside0.mk hb0.size
  have NE3 := Aside0.mk h0_.1
  have Hx3a := Aside0.mk (fresh_R (b0 := w.heap.size) h0_ HBo.size)
  clear h0_
  obtain ⟨Ax3a, cx3a, ex3a⟩ := Kd.R_slice Hx3a.out
  subst ex3a
  have Hx3b := Aside0.mk (fresh_R (b0 := w.heap.size) h1_ HBo.size)
  clear h1_
  obtain ⟨Ax3b, cx3b, ex3b⟩ := Kd.R_slice Hx3b.out
  subst ex3b
  clear hb0 HBo
  refine hK.out _ _ ⟨(blk_cell BKp0.out 0).trans rfl, (blk_cell BKp0.out 1).trans rfl, (blk_cell BKx0.out 0).trans rfl, (blk_cell BKx0.out 1).trans rfl⟩ (fun hHeld => ?_)
  clear hK K
  refine norm_ (a' := ?_) ?_ ?_
  rotate_left
  · show Act.put _ (some 41) _ = _
    simp only [Act.put, List.setIfInBounds_toArray, List.set_cons_zero, List.set_cons_succ, i64_w, i32_w]
    rfl
  refine one_ (i := 3) (N := some 42) #[true, true, true, true, false] rfl rfl (by kernel_rfl) (by decide) (fun K hK => ?_)
  replace hK := Aside0.mk hK
  refine goes_ Try.func18 (by kernel_rfl) rfl #[.agg #[.slice Ax2a l0_0.length cx2a, .slice Ax2b l0_1.length cx2b], .agg #[.slice Ax3a l0_0.length cx3a, .slice Ax3b l0_1.length cx3b]] (by rfl) rfl rfl (by (try simp only [List.map_toArray, List.map_cons, List.map_nil]); first | done | rfl) ?_
  have HBo := HB.out
  refine (laws_eqSurface.calls k Ax2a cx2a l0_0 Ax2b cx2b l0_1 Ax3a cx3a l0_0 Ax3b cx3b l0_1 true _ (Kd.R_reads' Hx2a.out).2.2 (Kd.R_reads' Hx2a.out).2.1 (Kd.R_reads' Hx2b.out).2.2 (Kd.R_reads' Hx2b.out).2.1 (Kd.R_reads' Hx3a.out).2.2 (Kd.R_reads' Hx3a.out).2.1 (Kd.R_reads' Hx3b.out).2.2 (Kd.R_reads' Hx3b.out).2.1 FE0.out).mono ?_
  rintro e w13 ⟨rfl, hb0⟩
  refine ⟨_, rfl, ?_⟩
  clear hHeld
  have n_ := Aside0.mk (blk_below BKp0.out hb0)
  clear BKp0
  have BKp0 := n_
  clear n_
  have n_ := Aside0.mk (Kd.R_below Hw0.out hb0)
  clear Hw0
  have Hw0 := n_
  clear n_
  have n_ := Aside0.mk (Kd.R_below Hx2a.out hb0)
  clear Hx2a
  have Hx2a := n_
  clear n_
  have n_ := Aside0.mk (Kd.R_below Hx2b.out hb0)
  clear Hx2b
  have Hx2b := n_
  clear n_
  have n_ := Aside0.mk (blk_below BKx0.out hb0)
  clear BKx0
  have BKx0 := n_
  clear n_
  have n_ := Aside0.mk (Kd.R_below Hg0.out hb0)
  clear Hg0
  have Hg0 := n_
  clear n_
  have n_ := Aside0.mk (Kd.R_below Hx3a.out hb0)
  clear Hx3a
  have Hx3a := n_
  clear n_
  have n_ := Aside0.mk (Kd.R_below Hx3b.out hb0)
  clear Hx3b
  have Hx3b := n_
  clear n_
  have n_ := Aside0.mk (below_then HBo HBo.size hb0)
  clear HB
  have HB := n_
  clear n_
  have HSw13 := Aside0.mk hb0.size
  clear hb0 HBo
  refine hK.out _ _ ⟨(blk_cell BKp0.out 0).trans rfl, (blk_cell BKp0.out 1).trans rfl, (blk_cell BKx0.out 0).trans rfl, (blk_cell BKx0.out 1).trans rfl⟩ (fun hHeld => ?_)
  clear hK K
  refine norm_ (a' := ?_) ?_ ?_
  rotate_left
  · show Act.put _ (some 42) _ = _
    simp only [Act.put, List.setIfInBounds_toArray, List.set_cons_zero, List.set_cons_succ, i64_w, i32_w]
    rfl
  refine pure_ (i := 4) (N := some 43) (v := ?_) (a' := ?_) #[true, true, true, true, true] rfl rfl (by kernel_rfl) (fun _ _ _ h => h) (Or.inl ⟨by rfl, ?_⟩) ?_ ?_
  rotate_left
  · intro w'
    go_simp
    with_reducible rfl
  rotate_left
  · simp only [Act.put, List.setIfInBounds_toArray, List.set_cons_zero, List.set_cons_succ, i64_w, i32_w]
    rfl
  refine done_ (by kernel_rfl) ?_
  clear hHeld
  have hczp0_0 : w13.cell? ⟨gbp0, 0, none⟩ = some (.slice A0_0 l0_0.length c0_0) := (blk_cell BKp0.out 0).trans rfl
  have hczp0_1 : w13.cell? ⟨gbp0, 1, none⟩ = some (.slice A0_1 l0_1.length c0_1) := (blk_cell BKp0.out 1).trans rfl
  have hfzp0_0 := blk_frozen BKp0.out 0
  have hfzp0_1 := blk_frozen BKp0.out 1
  have hczx0_0 : w13.cell? ⟨gbx0, 0, none⟩ = some (.slice Ax2a l0_0.length cx2a) := (blk_cell BKx0.out 0).trans rfl
  have hczx0_1 : w13.cell? ⟨gbx0, 1, none⟩ = some (.slice Ax2b l0_1.length cx2b) := (blk_cell BKx0.out 1).trans rfl
  have hfzx0_0 := blk_frozen BKx0.out 0
  have hfzx0_1 := blk_frozen BKx0.out 1
  clear Hx3a Hx3b
  go_upto_region 13 with (fail)
  go_upto_region 14 with (first | ((with_reducible refine gate_callee (f := 22) rfl ?_); refine goesL_ _ rfl rfl Try.func22 (by kernel_rfl) rfl #[.agg #[.slice Ax2a l0_0.length cx2a, .slice Ax2b l0_1.length cx2b], .int .i64 1] rfl (by (try simp only [List.map_toArray, List.map_cons, List.map_nil]); first | done | rfl) ?_; have HBo := HB.out; refine (laws_markSurface.calls k (fun k_ => some k_ = (.slice Ax2a l0_0.length cx2a : Value).ownBlock) _ l0_0 (fun k_ => some k_ = (.slice Ax2b l0_1.length cx2b : Value).ownBlock) _ l0_1 1 km0 ya0 yb0 w _ HB.out (Kd.R_tight rfl Hx2a.out) (fun k_ e_ => fun e2_ => NE2.out k_ e_.symm e2_) (Kd.R_tight rfl Hx2b.out) (fun k_ e_ => fun e2_ => NE2.out k_ e2_.symm e_) FK0.out).mono ?_; rintro e w14 ⟨rfl, hy0_, hy1_, hb0, hkp⟩; refine ⟨_, rfl, ?_⟩; clear hczp0_0 hfzp0_0 hczp0_1 hfzp0_1 hczx0_0 hfzx0_0 hczx0_1 hfzx0_1; have n_ := Aside0.mk (blk_kept (g := gbp0) BKp0.out hkp (fun hs => by have hk := GIp0.out; have := hk.1; have := hk.2; exact Or.elim hs (fun hs => by have h1 := (Hx2a.out.1 _ hs.symm).1; have h2 := (Hx2a.out.1 _ hs.symm).2; have := HSw1.out; have := HSw2.out; have := HSw3.out; have := HSw4.out; have := HSw5.out; have := HSw6.out; have := HSw7.out; have := HSw8.out; have := HSw9.out; have := HSw11.out; have := HSw12.out; have := HSw13.out; omega) (fun hs => by have h1 := (Hx2b.out.1 _ hs.symm).1; have h2 := (Hx2b.out.1 _ hs.symm).2; have := HSw1.out; have := HSw2.out; have := HSw3.out; have := HSw4.out; have := HSw5.out; have := HSw6.out; have := HSw7.out; have := HSw8.out; have := HSw9.out; have := HSw11.out; have := HSw12.out; have := HSw13.out; omega))); clear BKp0; have BKp0 := n_; clear n_; have n_ := Aside0.mk (Kd.R_kept Hw0.out hkp (fun k_ hk hs => by have := hk.1; have := hk.2; exact Or.elim hs (fun hs => by have h1 := (Hx2a.out.1 _ hs.symm).1; have h2 := (Hx2a.out.1 _ hs.symm).2; have := HSw1.out; have := HSw2.out; have := HSw3.out; have := HSw4.out; have := HSw5.out; have := HSw6.out; have := HSw7.out; have := HSw8.out; have := HSw9.out; have := HSw11.out; have := HSw12.out; have := HSw13.out; omega) (fun hs => by have h1 := (Hx2b.out.1 _ hs.symm).1; have h2 := (Hx2b.out.1 _ hs.symm).2; have := HSw1.out; have := HSw2.out; have := HSw3.out; have := HSw4.out; have := HSw5.out; have := HSw6.out; have := HSw7.out; have := HSw8.out; have := HSw9.out; have := HSw11.out; have := HSw12.out; have := HSw13.out; omega))); clear Hw0; have Hw0 := n_; clear n_; have n_ := Aside0.mk (blk_kept (g := gbx0) BKx0.out hkp (fun hs => by have hk := GIx0.out; have := hk.1; have := hk.2; exact Or.elim hs (fun hs => by have h1 := (Hx2a.out.1 _ hs.symm).1; have h2 := (Hx2a.out.1 _ hs.symm).2; have := HSw1.out; have := HSw2.out; have := HSw3.out; have := HSw4.out; have := HSw5.out; have := HSw6.out; have := HSw7.out; have := HSw8.out; have := HSw9.out; have := HSw11.out; have := HSw12.out; have := HSw13.out; omega) (fun hs => by have h1 := (Hx2b.out.1 _ hs.symm).1; have h2 := (Hx2b.out.1 _ hs.symm).2; have := HSw1.out; have := HSw2.out; have := HSw3.out; have := HSw4.out; have := HSw5.out; have := HSw6.out; have := HSw7.out; have := HSw8.out; have := HSw9.out; have := HSw11.out; have := HSw12.out; have := HSw13.out; omega))); clear BKx0; have BKx0 := n_; clear n_; have n_ := Aside0.mk (Kd.R_kept Hg0.out hkp (fun k_ hk hs => by have := hk.1; have := hk.2; exact Or.elim hs (fun hs => by have h1 := (Hx2a.out.1 _ hs.symm).1; have h2 := (Hx2a.out.1 _ hs.symm).2; have := HSw1.out; have := HSw2.out; have := HSw3.out; have := HSw4.out; have := HSw5.out; have := HSw6.out; have := HSw7.out; have := HSw8.out; have := HSw9.out; have := HSw11.out; have := HSw12.out; have := HSw13.out; omega) (fun hs => by have h1 := (Hx2b.out.1 _ hs.symm).1; have h2 := (Hx2b.out.1 _ hs.symm).2; have := HSw1.out; have := HSw2.out; have := HSw3.out; have := HSw4.out; have := HSw5.out; have := HSw6.out; have := HSw7.out; have := HSw8.out; have := HSw9.out; have := HSw11.out; have := HSw12.out; have := HSw13.out; omega))); clear Hg0; have Hg0 := n_; clear n_; have n_ := Aside0.mk (hb0); clear HB; have HB := n_; clear n_; have HSw14 := Aside0.mk hkp.1; clear Hx2a; clear Hx2b; clear hb0 hkp HBo; have hczp0_0 : w14.cell? ⟨gbp0, 0, none⟩ = some (.slice A0_0 l0_0.length c0_0) := (blk_cell BKp0.out 0).trans rfl; have hczp0_1 : w14.cell? ⟨gbp0, 1, none⟩ = some (.slice A0_1 l0_1.length c0_1) := (blk_cell BKp0.out 1).trans rfl; have hfzp0_0 := blk_frozen BKp0.out 0; have hfzp0_1 := blk_frozen BKp0.out 1; have hczx0_0 : w14.cell? ⟨gbx0, 0, none⟩ = some (.slice Ax2a l0_0.length cx2a) := (blk_cell BKx0.out 0).trans rfl; have hczx0_1 : w14.cell? ⟨gbx0, 1, none⟩ = some (.slice Ax2b l0_1.length cx2b) := (blk_cell BKx0.out 1).trans rfl; have hfzx0_0 := blk_frozen BKx0.out 0; have hfzx0_1 := blk_frozen BKx0.out 1))
  go_upto_region 17 with (first | (go_at_call 36; have HBo := HB.out; refine (laws_eqIntS.calls k Ag0 cg0 r0 Aw0 cw0 r0 true _ (Kd.R_reads' Hg0.out).2.2 (Kd.R_reads' Hg0.out).2.1 (Kd.R_reads' Hw0.out).2.2 (Kd.R_reads' Hw0.out).2.1 FQ0.out).mono ?_; rintro e w15 ⟨rfl, hd⟩; clear hczp0_0 hfzp0_0 hczp0_1 hfzp0_1 hczx0_0 hfzx0_0 hczx0_1 hfzx0_1; replace hd := Drawn0.below hd; have n_ := Aside0.mk (blk_below BKp0.out hd); clear BKp0; have BKp0 := n_; clear n_; have n_ := Aside0.mk (Kd.R_below Hw0.out hd); clear Hw0; have Hw0 := n_; clear n_; have n_ := Aside0.mk (blk_below BKx0.out hd); clear BKx0; have BKx0 := n_; clear n_; have n_ := Aside0.mk (Kd.R_below Hg0.out hd); clear Hg0; have Hg0 := n_; clear n_; have n_ := Aside0.mk (below_then HBo HBo.size hd); clear HB; have HB := n_; clear n_; have HSw15 := Aside0.mk hd.size; clear hd HBo; have hczp0_0 : w15.cell? ⟨gbp0, 0, none⟩ = some (.slice A0_0 l0_0.length c0_0) := (blk_cell BKp0.out 0).trans rfl; have hczp0_1 : w15.cell? ⟨gbp0, 1, none⟩ = some (.slice A0_1 l0_1.length c0_1) := (blk_cell BKp0.out 1).trans rfl; have hfzp0_0 := blk_frozen BKp0.out 0; have hfzp0_1 := blk_frozen BKp0.out 1; have hczx0_0 : w15.cell? ⟨gbx0, 0, none⟩ = some (.slice Ax2a l0_0.length cx2a) := (blk_cell BKx0.out 0).trans rfl; have hczx0_1 : w15.cell? ⟨gbx0, 1, none⟩ = some (.slice Ax2b l0_1.length cx2b) := (blk_cell BKx0.out 1).trans rfl; have hfzx0_0 := blk_frozen BKx0.out 0; have hfzx0_1 := blk_frozen BKx0.out 1))
  go_upto_region 19 with (first | ((with_reducible refine gate_callee (f := 37) rfl ?_); refine goesL_ _ rfl rfl Try.func37 (by kernel_rfl) rfl #[.slice Ag0 r0.length cg0, .int .i64 1] rfl (by (try simp only [List.map_toArray, List.map_cons, List.map_nil]); first | done | rfl) ?_; have HBo := HB.out; refine (laws_markIntS.calls k (fun k_ => w7.heap.size ≤ k_ ∧ k_ < w8.heap.size) _ r0 1 m0 z0 w _ HB.out Hg0.out FM0.out).mono ?_; rintro e w16 ⟨rfl, hy0_, hb0, hkp⟩; refine ⟨_, rfl, ?_⟩; clear hczp0_0 hfzp0_0 hczp0_1 hfzp0_1 hczx0_0 hfzx0_0 hczx0_1 hfzx0_1; have Xy := Aside0.mk (hy0_); have n_ := Aside0.mk (blk_kept (g := gbp0) BKp0.out hkp (fun hs => by have hk := GIp0.out; have := hk.1; have := hk.2; have := hs.1; have := hs.2; have := HSw1.out; have := HSw2.out; have := HSw3.out; have := HSw4.out; have := HSw5.out; have := HSw6.out; have := HSw7.out; have := HSw8.out; have := HSw9.out; have := HSw11.out; have := HSw12.out; have := HSw13.out; have := HSw14.out; have := HSw15.out; omega)); clear BKp0; have BKp0 := n_; clear n_; have n_ := Aside0.mk (Kd.R_kept Hw0.out hkp (fun k_ hk hs => by have := hk.1; have := hk.2; have := hs.1; have := hs.2; have := HSw1.out; have := HSw2.out; have := HSw3.out; have := HSw4.out; have := HSw5.out; have := HSw6.out; have := HSw7.out; have := HSw8.out; have := HSw9.out; have := HSw11.out; have := HSw12.out; have := HSw13.out; have := HSw14.out; have := HSw15.out; omega)); clear Hw0; have Hw0 := n_; clear n_; have n_ := Aside0.mk (blk_kept (g := gbx0) BKx0.out hkp (fun hs => by have hk := GIx0.out; have := hk.1; have := hk.2; have := hs.1; have := hs.2; have := HSw1.out; have := HSw2.out; have := HSw3.out; have := HSw4.out; have := HSw5.out; have := HSw6.out; have := HSw7.out; have := HSw8.out; have := HSw9.out; have := HSw11.out; have := HSw12.out; have := HSw13.out; have := HSw14.out; have := HSw15.out; omega)); clear BKx0; have BKx0 := n_; clear n_; have n_ := Aside0.mk (hb0); clear HB; have HB := n_; clear n_; have HSw16 := Aside0.mk hkp.1; clear Hg0; have Hy := Xy; clear Xy; clear hb0 hkp HBo; have hczp0_0 : w16.cell? ⟨gbp0, 0, none⟩ = some (.slice A0_0 l0_0.length c0_0) := (blk_cell BKp0.out 0).trans rfl; have hczp0_1 : w16.cell? ⟨gbp0, 1, none⟩ = some (.slice A0_1 l0_1.length c0_1) := (blk_cell BKp0.out 1).trans rfl; have hfzp0_0 := blk_frozen BKp0.out 0; have hfzp0_1 := blk_frozen BKp0.out 1; have hczx0_0 : w16.cell? ⟨gbx0, 0, none⟩ = some (.slice Ax2a l0_0.length cx2a) := (blk_cell BKx0.out 0).trans rfl; have hczx0_1 : w16.cell? ⟨gbx0, 1, none⟩ = some (.slice Ax2b l0_1.length cx2b) := (blk_cell BKx0.out 1).trans rfl; have hfzx0_0 := blk_frozen BKx0.out 0; have hfzx0_1 := blk_frozen BKx0.out 1; have Hg0 := Hy; clear Hy; have EL0 := Aside0.mk (show r0.length = z0.length from (Kd.R_reads' Hg0.out).1)))
  go_upto_region 24 with (first | ((with_reducible refine gate_callee (f := 38) rfl ?_); refine goesL_ _ rfl rfl Try.func38 (by kernel_rfl) rfl #[.slice Ag0 z0.length cg0, .int .i64 1] rfl (by (try simp only [List.map_toArray, List.map_cons, List.map_nil]); first | done | rfl | (rw [← EL0.out]; rfl)) ?_; have HBo := HB.out; refine (laws_heldIntS.calls k Ag0 cg0 z0 1 m0 _ (Kd.R_reads' Hg0.out).2.2 (Nat.le_trans (Nat.le_of_eq EL0.out.symm) (Kd.R_reads' Hg0.out).2.1) FH0.out).mono ?_; rintro e w17 ⟨rfl, hd⟩; refine ⟨_, rfl, ?_⟩; clear hczp0_0 hfzp0_0 hczp0_1 hfzp0_1 hczx0_0 hfzx0_0 hczx0_1 hfzx0_1; replace hd := Drawn0.below hd; have n_ := Aside0.mk (blk_below BKp0.out hd); clear BKp0; have BKp0 := n_; clear n_; have n_ := Aside0.mk (Kd.R_below Hw0.out hd); clear Hw0; have Hw0 := n_; clear n_; have n_ := Aside0.mk (blk_below BKx0.out hd); clear BKx0; have BKx0 := n_; clear n_; have n_ := Aside0.mk (Kd.R_below Hg0.out hd); clear Hg0; have Hg0 := n_; clear n_; have n_ := Aside0.mk (below_then HBo HBo.size hd); clear HB; have HB := n_; clear n_; have HSw17 := Aside0.mk hd.size; clear hd HBo; have hczp0_0 : w17.cell? ⟨gbp0, 0, none⟩ = some (.slice A0_0 l0_0.length c0_0) := (blk_cell BKp0.out 0).trans rfl; have hczp0_1 : w17.cell? ⟨gbp0, 1, none⟩ = some (.slice A0_1 l0_1.length c0_1) := (blk_cell BKp0.out 1).trans rfl; have hfzp0_0 := blk_frozen BKp0.out 0; have hfzp0_1 := blk_frozen BKp0.out 1; have hczx0_0 : w17.cell? ⟨gbx0, 0, none⟩ = some (.slice Ax2a l0_0.length cx2a) := (blk_cell BKx0.out 0).trans rfl; have hczx0_1 : w17.cell? ⟨gbx0, 1, none⟩ = some (.slice Ax2b l0_1.length cx2b) := (blk_cell BKx0.out 1).trans rfl; have hfzx0_0 := blk_frozen BKx0.out 0; have hfzx0_1 := blk_frozen BKx0.out 1))
  go_upto_region 25 with (first | ((with_reducible refine gate_callee (f := 16) rfl ?_); refine goesL_ _ rfl rfl Try.func16 (by kernel_rfl) rfl #[.agg #[.slice A0_0 l0_0.length c0_0, .slice A0_1 l0_1.length c0_1]] rfl (by (try simp only [List.map_toArray, List.map_cons, List.map_nil]); first | done | rfl | (rw [← EL0.out]; rfl)) ?_; have HBo := HB.out; refine (laws_toSurface.calls k A0_0 c0_0 l0_0 A0_1 c0_1 l0_1 l0_0 l0_1 _ (Kd.C_below HR0_0.out HB.out) HC0_0.out (Kd.C_below HR0_1.out HB.out) HC0_1.out FS0.out).mono ?_; rintro e w18 ⟨v0_, v1_, rfl, h0_, h1_, hb0⟩; refine ⟨_, rfl, ?_⟩; clear hczp0_0 hfzp0_0 hczp0_1 hfzp0_1 hczx0_0 hfzx0_0 hczx0_1 hfzx0_1; have n_ := Aside0.mk (blk_below BKp0.out hb0); clear BKp0; have BKp0 := n_; clear n_; have n_ := Aside0.mk (Kd.R_below Hw0.out hb0); clear Hw0; have Hw0 := n_; clear n_; have n_ := Aside0.mk (blk_below BKx0.out hb0); clear BKx0; have BKx0 := n_; clear n_; have n_ := Aside0.mk (Kd.R_below Hg0.out hb0); clear Hg0; have Hg0 := n_; clear n_; have n_ := Aside0.mk (below_then HBo HBo.size hb0); clear HB; have HB := n_; clear n_; have HSw18 := Aside0.mk hb0.size; have NE4 := Aside0.mk h0_.1; have Hx4a := Aside0.mk (fresh_R (b0 := w.heap.size) h0_ HBo.size); clear h0_; obtain ⟨Ax4a, cx4a, ex4a⟩ := Kd.R_slice Hx4a.out; subst ex4a; have Hx4b := Aside0.mk (fresh_R (b0 := w.heap.size) h1_ HBo.size); clear h1_; obtain ⟨Ax4b, cx4b, ex4b⟩ := Kd.R_slice Hx4b.out; subst ex4b; clear hb0 HBo; have hczp0_0 : w18.cell? ⟨gbp0, 0, none⟩ = some (.slice A0_0 l0_0.length c0_0) := (blk_cell BKp0.out 0).trans rfl; have hczp0_1 : w18.cell? ⟨gbp0, 1, none⟩ = some (.slice A0_1 l0_1.length c0_1) := (blk_cell BKp0.out 1).trans rfl; have hfzp0_0 := blk_frozen BKp0.out 0; have hfzp0_1 := blk_frozen BKp0.out 1; have hczx0_0 : w18.cell? ⟨gbx0, 0, none⟩ = some (.slice Ax2a l0_0.length cx2a) := (blk_cell BKx0.out 0).trans rfl; have hczx0_1 : w18.cell? ⟨gbx0, 1, none⟩ = some (.slice Ax2b l0_1.length cx2b) := (blk_cell BKx0.out 1).trans rfl; have hfzx0_0 := blk_frozen BKx0.out 0; have hfzx0_1 := blk_frozen BKx0.out 1) | ((with_reducible refine gate_callee (f := 40) rfl ?_); refine goesL_ _ rfl rfl Try.func40 (by kernel_rfl) rfl #[.agg #[.slice Ax4a l0_0.length cx4a, .slice Ax4b l0_1.length cx4b], .int .i64 a1, .int .i64 a2, .int .i64 a3] rfl (by (try simp only [List.map_toArray, List.map_cons, List.map_nil]); first | done | rfl | (rw [← EL0.out]; rfl)) ?_; have HBo := HB.out; refine (impl_Visits.calls k Ax4a cx4a l0_0 Ax4b cx4b l0_1 a1 a2 a3 r0 _ (Kd.R_reads' Hx4a.out).2.2 (Kd.R_reads' Hx4a.out).2.1 (Kd.R_reads' Hx4b.out).2.2 (Kd.R_reads' Hx4b.out).2.1 FG.out).mono ?_; rintro e w19 ⟨v0_, rfl, h0_, hb0⟩; refine ⟨_, rfl, ?_⟩; clear hczp0_0 hfzp0_0 hczp0_1 hfzp0_1 hczx0_0 hfzx0_0 hczx0_1 hfzx0_1; have n_ := Aside0.mk (blk_below BKp0.out hb0); clear BKp0; have BKp0 := n_; clear n_; have n_ := Aside0.mk (Kd.R_below Hw0.out hb0); clear Hw0; have Hw0 := n_; clear n_; have n_ := Aside0.mk (blk_below BKx0.out hb0); clear BKx0; have BKx0 := n_; clear n_; have n_ := Aside0.mk (Kd.R_below Hg0.out hb0); clear Hg0; have Hg0 := n_; clear n_; have n_ := Aside0.mk (Kd.R_below Hx4a.out hb0); clear Hx4a; have Hx4a := n_; clear n_; have n_ := Aside0.mk (Kd.R_below Hx4b.out hb0); clear Hx4b; have Hx4b := n_; clear n_; have n_ := Aside0.mk (below_then HBo HBo.size hb0); clear HB; have HB := n_; clear n_; have HSw19 := Aside0.mk hb0.size; have Hh0 := Aside0.mk (fresh_R (b0 := w.heap.size) h0_ HBo.size); clear h0_; obtain ⟨Ah0, ch0, eh0⟩ := Kd.R_slice Hh0.out; subst eh0; clear hb0 HBo; have hczp0_0 : w19.cell? ⟨gbp0, 0, none⟩ = some (.slice A0_0 l0_0.length c0_0) := (blk_cell BKp0.out 0).trans rfl; have hczp0_1 : w19.cell? ⟨gbp0, 1, none⟩ = some (.slice A0_1 l0_1.length c0_1) := (blk_cell BKp0.out 1).trans rfl; have hfzp0_0 := blk_frozen BKp0.out 0; have hfzp0_1 := blk_frozen BKp0.out 1; have hczx0_0 : w19.cell? ⟨gbx0, 0, none⟩ = some (.slice Ax2a l0_0.length cx2a) := (blk_cell BKx0.out 0).trans rfl; have hczx0_1 : w19.cell? ⟨gbx0, 1, none⟩ = some (.slice Ax2b l0_1.length cx2b) := (blk_cell BKx0.out 1).trans rfl; have hfzx0_0 := blk_frozen BKx0.out 0; have hfzx0_1 := blk_frozen BKx0.out 1))
  go_upto_region 28 with (first | ((with_reducible refine gate_callee (f := 36) rfl ?_); refine goesL_ _ rfl rfl Try.func36 (by kernel_rfl) rfl #[.slice Ah0 r0.length ch0, .slice Aw0 r0.length cw0] rfl (by (try simp only [List.map_toArray, List.map_cons, List.map_nil]); first | done | rfl | (rw [← EL0.out]; rfl)) ?_; have HBo := HB.out; refine (laws_eqIntS.calls k Ah0 ch0 r0 Aw0 cw0 r0 true _ (Kd.R_reads' Hh0.out).2.2 (Kd.R_reads' Hh0.out).2.1 (Kd.R_reads' Hw0.out).2.2 (Kd.R_reads' Hw0.out).2.1 FQ0.out).mono ?_; rintro e w20 ⟨rfl, hd⟩; refine ⟨_, rfl, ?_⟩; clear hczp0_0 hfzp0_0 hczp0_1 hfzp0_1 hczx0_0 hfzx0_0 hczx0_1 hfzx0_1; replace hd := Drawn0.below hd; have n_ := Aside0.mk (blk_below BKp0.out hd); clear BKp0; have BKp0 := n_; clear n_; have n_ := Aside0.mk (Kd.R_below Hw0.out hd); clear Hw0; have Hw0 := n_; clear n_; have n_ := Aside0.mk (blk_below BKx0.out hd); clear BKx0; have BKx0 := n_; clear n_; have n_ := Aside0.mk (Kd.R_below Hg0.out hd); clear Hg0; have Hg0 := n_; clear n_; have n_ := Aside0.mk (Kd.R_below Hx4a.out hd); clear Hx4a; have Hx4a := n_; clear n_; have n_ := Aside0.mk (Kd.R_below Hx4b.out hd); clear Hx4b; have Hx4b := n_; clear n_; have n_ := Aside0.mk (Kd.R_below Hh0.out hd); clear Hh0; have Hh0 := n_; clear n_; have n_ := Aside0.mk (below_then HBo HBo.size hd); clear HB; have HB := n_; clear n_; have HSw20 := Aside0.mk hd.size; clear hd HBo; have hczp0_0 : w20.cell? ⟨gbp0, 0, none⟩ = some (.slice A0_0 l0_0.length c0_0) := (blk_cell BKp0.out 0).trans rfl; have hczp0_1 : w20.cell? ⟨gbp0, 1, none⟩ = some (.slice A0_1 l0_1.length c0_1) := (blk_cell BKp0.out 1).trans rfl; have hfzp0_0 := blk_frozen BKp0.out 0; have hfzp0_1 := blk_frozen BKp0.out 1; have hczx0_0 : w20.cell? ⟨gbx0, 0, none⟩ = some (.slice Ax2a l0_0.length cx2a) := (blk_cell BKx0.out 0).trans rfl; have hczx0_1 : w20.cell? ⟨gbx0, 1, none⟩ = some (.slice Ax2b l0_1.length cx2b) := (blk_cell BKx0.out 1).trans rfl; have hfzx0_0 := blk_frozen BKx0.out 0; have hfzx0_1 := blk_frozen BKx0.out 1))
  go_wp2_with (first | ((with_reducible refine gate_callee (f := 38) rfl ?_); refine goesL_ _ rfl rfl Try.func38 (by kernel_rfl) rfl #[.slice Ag0 z0.length cg0, .int .i64 1] rfl (by (try simp only [List.map_toArray, List.map_cons, List.map_nil]); first | done | rfl | (rw [← EL0.out]; rfl)) ?_; have HBo := HB.out; refine (laws_heldIntS.calls k Ag0 cg0 z0 1 m0 _ (Kd.R_reads' Hg0.out).2.2 (Nat.le_trans (Nat.le_of_eq EL0.out.symm) (Kd.R_reads' Hg0.out).2.1) FH0.out).mono ?_; rintro e w21 ⟨rfl, hd⟩; refine ⟨_, rfl, ?_⟩; clear hczp0_0 hfzp0_0 hczp0_1 hfzp0_1 hczx0_0 hfzx0_0 hczx0_1 hfzx0_1; replace hd := Drawn0.below hd; have n_ := Aside0.mk (blk_below BKp0.out hd); clear BKp0; have BKp0 := n_; clear n_; have n_ := Aside0.mk (Kd.R_below Hw0.out hd); clear Hw0; have Hw0 := n_; clear n_; have n_ := Aside0.mk (blk_below BKx0.out hd); clear BKx0; have BKx0 := n_; clear n_; have n_ := Aside0.mk (Kd.R_below Hg0.out hd); clear Hg0; have Hg0 := n_; clear n_; have n_ := Aside0.mk (Kd.R_below Hx4a.out hd); clear Hx4a; have Hx4a := n_; clear n_; have n_ := Aside0.mk (Kd.R_below Hx4b.out hd); clear Hx4b; have Hx4b := n_; clear n_; have n_ := Aside0.mk (Kd.R_below Hh0.out hd); clear Hh0; have Hh0 := n_; clear n_; have n_ := Aside0.mk (below_then HBo HBo.size hd); clear HB; have HB := n_; clear n_; have HSw21 := Aside0.mk hd.size; clear hd HBo; have hczp0_0 : w21.cell? ⟨gbp0, 0, none⟩ = some (.slice A0_0 l0_0.length c0_0) := (blk_cell BKp0.out 0).trans rfl; have hczp0_1 : w21.cell? ⟨gbp0, 1, none⟩ = some (.slice A0_1 l0_1.length c0_1) := (blk_cell BKp0.out 1).trans rfl; have hfzp0_0 := blk_frozen BKp0.out 0; have hfzp0_1 := blk_frozen BKp0.out 1; have hczx0_0 : w21.cell? ⟨gbx0, 0, none⟩ = some (.slice Ax2a l0_0.length cx2a) := (blk_cell BKx0.out 0).trans rfl; have hczx0_1 : w21.cell? ⟨gbx0, 1, none⟩ = some (.slice Ax2b l0_1.length cx2b) := (blk_cell BKx0.out 1).trans rfl; have hfzx0_0 := blk_frozen BKx0.out 0; have hfzx0_1 := blk_frozen BKx0.out 1))
  go_ret
  exact ⟨rfl, HB.out⟩
end Go.Proofs.Ytbdnellgioimbaa.A
end
section
/- Plain mathematics: permutations as lists of numbers. No conditions. -/
namespace Go.Proofs.Ytbdnellgioimbaa.M
set_option linter.unusedVariables false
set_option linter.unusedSimpArgs false
def I (l : List Nat) : List Int := l.map Int.ofNat
def g (p : List Nat) (i : Nat) : Nat := p.getD i 0
def tab (n : Nat) (f : Nat → Nat) : List Nat := (List.range n).map f
theorem I_len (l : List Nat) : (I l).length = l.length := by simp [I]
theorem tab_len (n : Nat) (f : Nat → Nat) : (tab n f).length = n := by simp [tab]
theorem g_tab {n : Nat} {f : Nat → Nat} {i : Nat} (h : i < n) : g (tab n f) i = f i := by simp [g, tab, List.getD_eq_getElem?_getD, h]
theorem g_get {p : List Nat} {i : Nat} (h : i < p.length) : g p i = p[i] := by simp [g, List.getD_eq_getElem?_getD, h]
theorem g_mem {p : List Nat} {i : Nat} (h : i < p.length) : g p i ∈ p := by rw [g_get h]; exact List.getElem_mem h
theorem mem_g {p : List Nat} {x : Nat} (h : x ∈ p) : ∃ i, i < p.length ∧ g p i = x := by
  obtain ⟨i, hi, rfl⟩ := List.mem_iff_getElem.mp h
  exact ⟨i, hi, g_get hi⟩
theorem ext_g {a b : List Nat} (hl : a.length = b.length) (h : ∀ i, i < a.length → g a i = g b i) : a = b := by
  apply List.ext_getElem hl
  intro i h1 h2
  rw [← g_get h1, ← g_get h2]
  exact h i h1
theorem eq_tab {l : List Nat} {n : Nat} {f : Nat → Nat} (hl : l.length = n) (h : ∀ i, i < n → g l i = f i) : l = tab n f :=
  ext_g (by rw [tab_len, hl]) (fun i hi => by rw [hl] at hi; rw [g_tab hi, h i hi])
theorem I_snoc (p : List Nat) (x : Nat) : I p ++ [(x : Int)] = I (p ++ [x]) := by simp [I]
structure IsP (p : List Nat) : Prop where
  lt : ∀ x ∈ p, x < p.length
  nd : p.Nodup
instance (p : List Nat) : Decidable (IsP p) := decidable_of_iff ((∀ x ∈ p, x < p.length) ∧ p.Nodup) ⟨fun h => ⟨h.1, h.2⟩, fun h => ⟨h.lt, h.nd⟩⟩
theorem nodup_le (n : Nat) : ∀ l : List Nat, l.Nodup → (∀ x ∈ l, x < n) → l.length ≤ n := by
  induction n with
  | zero =>
    intro l _ h
    cases l with
    | nil => simp
    | cons a l => exact absurd (h a (by simp)) (by omega)
  | succ n ih =>
    intro l hn h
    have h1 := ih (l.erase n) (hn.erase n) (fun x hx => by
      have h2 := (List.Nodup.mem_erase_iff hn).mp hx
      have h3 := h x h2.2
      have h4 := h2.1
      omega)
    have h5 := @List.length_erase _ _ _ n l
    split at h5 <;> omega
theorem g_lt {p : List Nat} (hp : IsP p) {i : Nat} (h : i < p.length) : g p i < p.length := hp.lt _ (g_mem h)
theorem g_inj {p : List Nat} (hp : IsP p) {i j : Nat} (hi : i < p.length) (hj : j < p.length) (h : g p i = g p j) : i = j := by
  rw [g_get hi, g_get hj] at h
  have hw := List.pairwise_iff_getElem.mp hp.nd
  rcases Nat.lt_trichotomy i j with hij | hij | hij
  · exact absurd h (hw i j hi hj hij)
  · exact hij
  · exact absurd h.symm (hw j i hj hi hij)
theorem isP_mk {p : List Nat} (h1 : ∀ i, i < p.length → g p i < p.length) (h2 : ∀ i j, i < p.length → j < p.length → g p i = g p j → i = j) : IsP p := by
  refine ⟨fun x hx => ?_, ?_⟩
  · obtain ⟨i, hi, rfl⟩ := mem_g hx
    exact h1 i hi
  · refine List.pairwise_iff_getElem.mpr ?_
    intro i j hi hj hij e'
    rw [← g_get hi, ← g_get hj] at e'
    have := h2 i j hi hj e'
    omega
theorem isP_tab {n : Nat} {f : Nat → Nat} (h1 : ∀ i, i < n → f i < n) (h2 : ∀ i j, i < n → j < n → f i = f j → i = j) : IsP (tab n f) := by
  refine isP_mk (fun i hi => ?_) (fun i j hi hj e => ?_)
  · rw [tab_len] at hi ⊢; rw [g_tab hi]; exact h1 i hi
  · rw [tab_len] at hi hj; rw [g_tab hi, g_tab hj] at e; exact h2 i j hi hj e
def thn (p q : List Nat) : List Nat := tab p.length (fun i => g q (g p i))
theorem thn_len (p q : List Nat) : (thn p q).length = p.length := tab_len _ _
theorem g_thn {p q : List Nat} {i : Nat} (h : i < p.length) : g (thn p q) i = g q (g p i) := g_tab h
def idn (n : Nat) : List Nat := tab n id
theorem idn_len (n : Nat) : (idn n).length = n := tab_len _ _
end Go.Proofs.Ytbdnellgioimbaa.M
end
section
/- Plain mathematics: permutations of whole numbers, and what is reached by two of them. No conditions. -/
namespace Go.Proofs.Ytbdnellgioimbaa.M
set_option linter.unusedVariables false
set_option linter.unusedSimpArgs false
open Go.RowKit Go.Proofs.YtbdnellgioimbaaW.PrintWords Go.Proofs.YtbdnellgioimbaaW.PrintLast Go.Proofs.YtbdnellgioimbaaW.PrintMore
theorem w64 {x : Int} (h0 : -9223372036854775808 ≤ x) (h1 : x ≤ 9223372036854775807) : wrap64 x = x := by unfold wrap64; omega
theorem w64s (i : Nat) (h : i ≤ 9000000000000000000) : wrap64 ((i : Int) + 1) = ((i + 1 : Nat) : Int) := by rw [w64 (by omega) (by omega)]; omega
theorem ev_succ {α : Type} {f : Nat → Option α} {r : α} (h : Ev (fun k => f (k + 1)) r) : Ev f r := Ev.step (fun _ => rfl) h
theorem rdI (p : List Nat) (i : Nat) : rd (I p) (i : Int) = ((g p i : Nat) : Int) := by
  unfold rd g I
  simp only [Int.toNat_natCast, List.getD_eq_getElem?_getD, List.getElem?_map]
  cases p[i]? <;> rfl
theorem rd_get (l : List Int) (i : Nat) (h : i < l.length) : rd l (i : Int) = l[i] := by
  unfold rd
  simp [List.getD_eq_getElem?_getD, h]
theorem mem_I {p : List Nat} {x : Nat} : (x : Int) ∈ I p ↔ x ∈ p := by
  unfold I
  constructor
  · intro h
    obtain ⟨y, hy, e⟩ := List.mem_map.mp h
    have : y = x := Int.ofNat.inj e
    exact this ▸ hy
  · intro h
    exact List.mem_map.mpr ⟨x, h, rfl⟩
def PI (l : List Int) : Prop := l.length ≤ 24 ∧ (∀ x ∈ l, 0 ≤ x ∧ x < (l.length : Int)) ∧ l.Nodup
instance : DecidablePred PI := fun l => by unfold PI; infer_instance
def permB (l : List Int) : Bool := decide (PI l)
def N (l : List Int) : List Nat := l.map Int.toNat
theorem N_I (p : List Nat) : N (I p) = p := by
  unfold N I
  rw [List.map_map]
  exact List.map_id'' (fun x => rfl) p
theorem N_len (l : List Int) : (N l).length = l.length := by simp [N]
theorem I_N {l : List Int} (h : ∀ x ∈ l, 0 ≤ x) : I (N l) = l := by
  unfold N I
  rw [List.map_map]
  conv => rhs; rw [← List.map_id l]
  apply List.map_congr_left
  intro x hx
  have := h x hx
  simp only [Function.comp, id]
  show ((x.toNat : Nat) : Int) = x
  omega
theorem PI_nat {l : List Int} (h : PI l) : ∃ p, l = I p ∧ IsP p ∧ p.length ≤ 24 := by
  obtain ⟨h1, h2, h3⟩ := h
  refine ⟨N l, (I_N (fun x hx => (h2 x hx).1)).symm, ?_, by rw [N_len]; exact h1⟩
  have e := I_N (fun x hx => (h2 x hx).1)
  refine ⟨fun x hx => ?_, ?_⟩
  · have := (h2 (x : Int) (by rw [← e]; exact mem_I.mpr hx)).2
    rw [N_len]
    omega
  · rw [← e] at h3
    unfold I at h3
    exact (List.pairwise_map.mp h3).imp (fun {a b} hab hh => hab (by rw [hh]))
def okFrom (l : List Int) (i : Nat) : Prop := ∀ j : Nat, i ≤ j → j < l.length → 0 ≤ rd l (j : Int) ∧ rd l (j : Int) < (l.length : Int) ∧ rd l (j : Int) ∉ l.take j
theorem okFrom_end (l : List Int) (i : Nat) (h : l.length ≤ i) : okFrom l i := fun j h1 h2 => by omega
theorem okFrom_step {l : List Int} {i : Nat} (h : 0 ≤ rd l (i : Int) ∧ rd l (i : Int) < (l.length : Int) ∧ rd l (i : Int) ∉ l.take i) : okFrom l i ↔ okFrom l (i + 1) := by
  constructor
  · intro k j h1 h2
    exact k j (by omega) h2
  · intro k j h1 h2
    by_cases e : j = i
    · subst e
      exact h
    · exact k j (by omega) h2
theorem okFrom_not {l : List Int} {i : Nat} (hi : i < l.length) (h : ¬ (0 ≤ rd l (i : Int) ∧ rd l (i : Int) < (l.length : Int) ∧ rd l (i : Int) ∉ l.take i)) : ¬ okFrom l i := fun k => h (k i (Nat.le_refl _) hi)
theorem okFrom_PI {l : List Int} (h : l.length ≤ 24) : okFrom l 0 ↔ PI l := by
  constructor
  · intro k
    refine ⟨h, fun x hx => ?_, ?_⟩
    · obtain ⟨i, hi, rfl⟩ := List.mem_iff_getElem.mp hx
      have := k i (Nat.zero_le _) hi
      rw [rd_get l i hi] at this
      exact ⟨this.1, this.2.1⟩
    · refine List.pairwise_iff_getElem.mpr ?_
      intro i j hi hj hij e
      have := (k j (Nat.zero_le _) hj).2.2
      rw [rd_get l j hj, ← e] at this
      exact this (List.mem_take_iff_getElem.mpr ⟨i, by omega, rfl⟩)
  · intro ⟨_, h2, h3⟩ j _ hj
    rw [rd_get l j hj]
    refine ⟨(h2 _ (List.getElem_mem hj)).1, (h2 _ (List.getElem_mem hj)).2, fun hm => ?_⟩
    obtain ⟨i, hi, e⟩ := List.mem_take_iff_getElem.mp hm
    exact List.pairwise_iff_getElem.mp h3 i j (by omega) hj (by omega) e
theorem permB_of {l : List Int} {b : Bool} (h : l.length ≤ 24) (hb : b = true ↔ okFrom l 0) : b = permB l := by
  rw [Bool.eq_iff_iff, hb, okFrom_PI h]
  unfold permB
  rw [decide_eq_true_iff]
theorem take_succ (l : List Int) (i : Nat) (h : i < l.length) : l.take (i + 1) = l.take i ++ [rd l (i : Int)] := by
  rw [rd_get l i h, List.take_append_getElem h]
def st1 (out : List Nat) (x : Nat) : List Nat := if x ∈ out then out else out ++ [x]
def bfs (p q : List Nat) : Nat → Nat → List Nat → List Nat
  | 0, _, out => out
  | f + 1, a, out => if a < out.length then bfs p q f (a + 1) (st1 (st1 out (g p (g out a))) (g q (g out a))) else out
def reach (p q : List Nat) (s : Nat) : List Nat := bfs p q (p.length + 1) 0 [s]
structure RInv (n : Nat) (out : List Nat) : Prop where
  nd : out.Nodup
  lt : ∀ x ∈ out, x < n
theorem RInv.le {n : Nat} {out : List Nat} (h : RInv n out) : out.length ≤ n := nodup_le n out h.nd h.lt
theorem RInv.st {n : Nat} {out : List Nat} {x : Nat} (h : RInv n out) (hx : x < n) : RInv n (st1 out x) := by
  unfold st1
  split
  · exact h
  · rename_i hn
    refine ⟨List.nodup_append.mpr ⟨h.nd, by simp, fun a ha b hb e => ?_⟩, fun y hy => ?_⟩
    · have : b = x := by simpa using hb
      subst this
      exact hn (e ▸ ha)
    · rcases List.mem_append.mp hy with hy | hy
      · exact h.lt y hy
      · have : y = x := by simpa using hy
        omega
theorem st1_len (out : List Nat) (x : Nat) : out.length ≤ (st1 out x).length := by
  unfold st1
  split <;> simp
theorem RInv.g {n : Nat} {out : List Nat} {a : Nat} (h : RInv n out) (ha : a < out.length) : M.g out a < n := h.lt _ (g_mem ha)
structure Sf (r u : List Nat) : Prop where
  pr : IsP r
  pu : IsP u
  le : r.length ≤ 24
  eq : u.length = r.length
  pos : 0 < r.length
  all : (reach r u 0).length = r.length
def surfB (r u : List Int) : Bool := permB r && permB u && decide (r.length = u.length) && decide (0 < r.length) && ((reach (N r) (N u) 0).length == r.length)
theorem surf_nat {r u : List Int} (h : surfB r u = true) : ∃ r' u', r = I r' ∧ u = I u' ∧ Sf r' u' := by
  unfold surfB at h
  simp only [Bool.and_eq_true, decide_eq_true_eq, beq_iff_eq] at h
  obtain ⟨⟨⟨⟨h1, h2⟩, h3⟩, h4⟩, h5⟩ := h
  obtain ⟨r', rfl, a1, a2⟩ := PI_nat (of_decide_eq_true h1)
  obtain ⟨u', rfl, b1, b2⟩ := PI_nat (of_decide_eq_true h2)
  rw [N_I, N_I, I_len] at h5
  rw [I_len, I_len] at h3
  rw [I_len] at h4
  exact ⟨r', u', rfl, rfl, a1, b1, a2, h3.symm, h4, h5⟩
end Go.Proofs.Ytbdnellgioimbaa.M
end
section
/- The tests of permutations, program and reference, come to one plain test. No conditions. -/
namespace Go.Proofs.Ytbdnellgioimbaa.M
set_option linter.unusedVariables false
set_option linter.unusedSimpArgs false
open Go.RowKit Go.Proofs.YtbdnellgioimbaaW.PrintWords Go.Proofs.YtbdnellgioimbaaW.PrintLast Go.Proofs.YtbdnellgioimbaaW.PrintMore Go.Proofs.Ytbdnellgioimbaa.A
theorem has_ev (l : List Int) (a : Int) (hl : l.length ≤ 1000000000) : Ev (fun k => spec_l02Has.f k l a) (decide (a ∈ l)) := by
  have H : ∀ d i : Nat, i + d = l.length → Ev (fun k => spec_l02Has.l0 k a l (l.length : Int) (i : Int)) (decide (a ∈ l.drop i)) := by
    intro d
    induction d with
    | zero =>
      intro i h
      refine ev_succ ?_
      have h1 : ¬ ((i : Int) < (l.length : Int)) := by omega
      have e : decide (a ∈ l.drop i) = false := by
        rw [List.drop_of_length_le (by omega)]
        simp
      simp only [spec_l02Has.l0, h1, if_false]
      rw [e]
      exact Ev.now _
    | succ d ih =>
      intro i h
      refine ev_succ ?_
      have hi : i < l.length := by omega
      have h1 : (i : Int) < (l.length : Int) := by omega
      have h2 : (0 : Int) ≤ (i : Int) := by omega
      have h3 := w64s i (by omega)
      have e := List.drop_eq_getElem_cons hi
      rw [← rd_get l i hi] at e
      by_cases hr : rd l (i : Int) = a
      · have e2 : decide (a ∈ l.drop i) = true := by rw [e, hr]; simp
        simp only [spec_l02Has.l0, h1, h2, hr, if_true]
        rw [e2]
        exact Ev.now _
      · have e2 : decide (a ∈ l.drop i) = decide (a ∈ l.drop (i + 1)) := by
          rw [e]
          have : ¬ a = rd l (i : Int) := fun h => hr h.symm
          simp [this]
        simp only [spec_l02Has.l0, h1, h2, h3, hr, if_true, if_false]
        rw [e2]
        exact ih (i + 1) (by omega)
  have := H l.length 0 (by omega)
  simpa [spec_l02Has.f] using this
theorem in_f (x : Int) (n : Nat) (hn : n ≤ 24) : spec_l01In.f x 0 (wrap64 ((n : Int) - 1)) = some (decide (0 ≤ x ∧ x < (n : Int))) := by
  unfold spec_l01In.f
  rw [w64 (by omega) (by omega)]
  by_cases h : x ≥ 0
  · rw [if_pos h]
    congr 1
    rw [Bool.eq_iff_iff, decide_eq_true_iff, decide_eq_true_iff]
    omega
  · rw [if_neg h]
    congr 1
    symm
    rw [decide_eq_false_iff_not]
    omega
theorem spec_permOk (l : List Int) : Ev (fun k => spec_PermOk.f k l) (permB l) := by
  unfold spec_PermOk.f
  by_cases h24 : (l.length : Int) > 24
  · simp only [h24, if_true]
    have : permB l = false := by
      unfold permB
      rw [decide_eq_false_iff_not]
      intro h
      have := h.1
      omega
    rw [this]
    exact Ev.now _
  · simp only [h24, if_false]
    have H : ∀ d i : Nat, i + d = l.length → ∃ b, Ev (fun k => spec_PermOk.l0 k l l (l.length : Int) (i : Int)) b ∧ (b = true ↔ okFrom l i) := by
      intro d
      induction d with
      | zero =>
        intro i h
        refine ⟨true, ev_succ ?_, by simp [okFrom_end l i (by omega)]⟩
        have h1 : ¬ ((i : Int) < (l.length : Int)) := by omega
        simp only [spec_PermOk.l0, h1, if_false]
        exact Ev.now _
      | succ d ih =>
        intro i h
        have hi : i < l.length := by omega
        have h1 : (i : Int) < (l.length : Int) := by omega
        have h1' : (i : Int) ≤ (l.length : Int) := by omega
        have h2 : (0 : Int) ≤ (i : Int) := by omega
        have h3 := w64s i (by omega)
        have hin := in_f (rd l (i : Int)) l.length (by omega)
        by_cases c1 : 0 ≤ rd l (i : Int) ∧ rd l (i : Int) < (l.length : Int)
        · have hh := has_ev (l.take i) (rd l (i : Int)) (by rw [List.length_take]; omega)
          by_cases c2 : rd l (i : Int) ∈ l.take i
          · refine ⟨false, ev_succ ?_, by simpa using okFrom_not hi (fun h => h.2.2 c2)⟩
            simp only [spec_PermOk.l0, h1, h1', h2, hin, c1, if_true, Option.bind_some, decide_true, Int.toNat_natCast, and_self]
            refine Ev.bind hh ?_
            simp only [c2, decide_true, if_true]
            exact Ev.now _
          · obtain ⟨b, i1, i2⟩ := ih (i + 1) (by omega)
            refine ⟨b, ev_succ ?_, by rw [i2]; exact (okFrom_step ⟨c1.1, c1.2, c2⟩).symm⟩
            simp only [spec_PermOk.l0, h1, h1', h2, h3, hin, c1, if_true, Option.bind_some, decide_true, Int.toNat_natCast, and_self]
            refine Ev.bind hh ?_
            simp only [c2, decide_false, Bool.false_eq_true, if_false]
            exact i1
        · refine ⟨false, ev_succ ?_, by simpa using okFrom_not hi (fun h => c1 ⟨h.1, h.2.1⟩)⟩
          simp only [spec_PermOk.l0, h1, h2, hin, c1, if_true, if_false, Option.bind_some, decide_false, Bool.false_eq_true]
          exact Ev.now _
    obtain ⟨b, i1, i2⟩ := H l.length 0 (by omega)
    rw [← permB_of (by omega) i2]
    exact i1
theorem rdOf_nat (s : List Bool) (x : Nat) : rdOf false s (x : Int) = s.getD x false := rfl
theorem getD_set (s : List Bool) (x y : Nat) (h : x < s.length) : (s.set x true).getD y false = if x = y then true else s.getD y false := by
  rw [List.getD_eq_getElem?_getD, List.getD_eq_getElem?_getD, List.getElem?_set]
  by_cases e : x = y
  · subst e
    simp [h]
  · simp [e]
theorem impl_permOk (l : List Int) : Ev (fun k => impl_PermOk.f k l) (permB l) := by
  unfold impl_PermOk.f
  by_cases h24 : (l.length : Int) > 24
  · simp only [h24, if_true]
    have : permB l = false := by
      unfold permB
      rw [decide_eq_false_iff_not]
      intro h
      have := h.1
      omega
    rw [this]
    exact Ev.now _
  · simp only [h24, if_false]
    have H : ∀ (d i : Nat) (s : List Bool), i + d = l.length → s.length = 24 → (∀ x : Nat, x < 24 → (s.getD x false = true ↔ (x : Int) ∈ l.take i)) → ∃ b, Ev (fun k => impl_PermOk.l0 k l s (i : Int)) b ∧ (b = true ↔ okFrom l i) := by
      intro d
      induction d with
      | zero =>
        intro i s h hs hx
        refine ⟨true, ev_succ ?_, by simp [okFrom_end l i (by omega)]⟩
        have h1 : ¬ ((i : Int) < (l.length : Int)) := by omega
        simp only [impl_PermOk.l0, h1, if_false]
        exact Ev.now _
      | succ d ih =>
        intro i s h hs hx
        have hi : i < l.length := by omega
        have h1 : (i : Int) < (l.length : Int) := by omega
        have h2 : (0 : Int) ≤ (i : Int) := by omega
        have h3 := w64s i (by omega)
        by_cases c1 : rd l (i : Int) < 0
        · refine ⟨false, ev_succ ?_, by simpa using okFrom_not hi (fun h => by omega)⟩
          simp only [impl_PermOk.l0, h1, h2, c1, if_true]
          exact Ev.now _
        · by_cases c2 : rd l (i : Int) ≥ (l.length : Int)
          · refine ⟨false, ev_succ ?_, by simpa using okFrom_not hi (fun h => by omega)⟩
            simp only [impl_PermOk.l0, h1, h2, c1, c2, if_true, if_false]
            exact Ev.now _
          · obtain ⟨x, ex⟩ : ∃ x : Nat, rd l (i : Int) = (x : Int) := ⟨(rd l (i : Int)).toNat, by omega⟩
            have hx24 : x < 24 := by omega
            by_cases c3 : s.getD x false = true
            · have hm := (hx x hx24).mp c3
              refine ⟨false, ev_succ ?_, by simpa using okFrom_not hi (fun h => h.2.2 (by rw [ex]; exact hm))⟩
              rw [ex] at c1 c2
              simp only [impl_PermOk.l0, h1, h2, ex, c1, c2, rdOf_nat, c3, if_true, if_false]
              exact Ev.now _
            · have hm : (x : Int) ∉ l.take i := fun h => c3 ((hx x hx24).mpr h)
              obtain ⟨b, i1, i2⟩ := ih (i + 1) (s.set x true) (by omega) (by rw [List.length_set]; exact hs) (fun y hy => by
                rw [getD_set s x y (by omega), take_succ l i hi, ex]
                by_cases e : x = y
                · subst e
                  simp
                · rw [if_neg e, hx y hy]
                  have : ¬ (y : Int) = (x : Int) := by omega
                  simp [this])
              refine ⟨b, ev_succ ?_, by rw [i2]; exact (okFrom_step ⟨by omega, by omega, by rw [ex]; exact hm⟩).symm⟩
              rw [ex] at c1 c2
              simp only [impl_PermOk.l0, h1, h2, h3, ex, c1, c2, rdOf_nat, c3, if_true, if_false, Int.toNat_natCast]
              exact i1
    obtain ⟨b, i1, i2⟩ := H l.length 0 (List.replicate 24 false) (by omega) rfl (fun x hx => by
      have : (List.replicate 24 false).getD x false = false := by
        rw [List.getD_eq_getElem?_getD, List.getElem?_replicate]
        simp [hx]
      rw [this]
      simp)
    rw [← permB_of (by omega) i2]
    exact i1
end Go.Proofs.Ytbdnellgioimbaa.M
end
section
/- The tests of surfaces, program and reference, come to one plain test. No conditions. -/
namespace Go.Proofs.Ytbdnellgioimbaa.M
set_option linter.unusedVariables false
set_option linter.unusedSimpArgs false
open Go.RowKit Go.Proofs.YtbdnellgioimbaaW.PrintWords Go.Proofs.YtbdnellgioimbaaW.PrintLast Go.Proofs.YtbdnellgioimbaaW.PrintMore Go.Proofs.Ytbdnellgioimbaa.A
theorem I_pair (a b : Nat) : ([(a : Int), (b : Int)] : List Int) = I [a, b] := rfl
theorem I_len' (l : List Nat) : ((I l).length : Int) = (l.length : Int) := by rw [I_len]
theorem st1_I (out : List Nat) (x : Nat) : I (st1 out x) = if (x : Int) ∈ I out then I out else I out ++ [(x : Int)] := by
  unfold st1
  by_cases h : x ∈ out
  · rw [if_pos h, if_pos (mem_I.mpr h)]
  · rw [if_neg h, if_neg (fun k => h (mem_I.mp k)), I_snoc]
theorem reach_one (p q out pr : List Nat) (a : Nat) (j : Nat) (hj : j < pr.length) (hp : pr.length ≤ 2) (hl : out.length ≤ 1000) (r : List Int)
    (H : Ev (fun k => spec_l02Reach.l1 k (I p) (I q) (I (st1 out (g pr j))) (a : Int) (I pr) (pr.length : Int) ((j + 1 : Nat) : Int)) r) :
    Ev (fun k => spec_l02Reach.l1 k (I p) (I q) (I out) (a : Int) (I pr) (pr.length : Int) (j : Int)) r := by
  refine ev_succ ?_
  have h1 : (j : Int) < (pr.length : Int) := by omega
  have h2 : (0 : Int) ≤ (j : Int) := by omega
  have h3 := w64s j (by omega)
  have h4 : (I out).length < 17592186044416 := by rw [I_len]; omega
  have hh := has_ev (I out) ((g pr j : Nat) : Int) (by rw [I_len]; omega)
  simp only [spec_l02Reach.l1, h1, h2, h3, h4, rdI, I_len', if_true]
  refine Ev.bind hh ?_
  rw [st1_I] at H
  by_cases hm : ((g pr j : Nat) : Int) ∈ I out
  · rw [if_pos hm] at H
    simp only [hm, decide_true, if_true]
    exact H
  · rw [if_neg hm] at H
    simp only [hm, decide_false, Bool.false_eq_true, if_false]
    exact H
theorem reach_loop {p q : List Nat} (hp : IsP p) (hq : IsP q) (hl : q.length = p.length) (h24 : p.length ≤ 24) (f : Nat) : ∀ (a : Nat) (out : List Nat), RInv p.length out → a ≤ out.length → p.length < f + a →
    Ev (fun k => spec_l02Reach.l0 k (I p) (I q) (I out) (a : Int)) (I (bfs p q f a out)) := by
  induction f with
  | zero =>
    intro a out hr ha hf
    have := hr.le
    omega
  | succ f ih =>
    intro a out hr ha hf
    have hle := hr.le
    refine ev_succ ?_
    by_cases h : a < out.length
    · have h1 : (a : Int) < (out.length : Int) := by omega
      have h2 : (0 : Int) ≤ (a : Int) := by omega
      have hx := hr.g h
      have h3 : ((g out a : Nat) : Int) < (p.length : Int) := by omega
      have h4 : (0 : Int) ≤ ((g out a : Nat) : Int) := by omega
      have h5 : ((g out a : Nat) : Int) < (q.length : Int) := by omega
      have h6 := w64s a (by omega)
      simp only [spec_l02Reach.l0, h1, h2, h3, h4, h5, rdI, I_len', if_true, Option.bind_some, I_pair]
      have r1 := hr.st (g_lt hp hx)
      have r2 := r1.st (x := g q (g out a)) (by have := g_lt hq (i := g out a) (by omega); omega)
      have hb : bfs p q (f + 1) a out = bfs p q f (a + 1) (st1 (st1 out (g p (g out a))) (g q (g out a))) := by
        rw [bfs, if_pos h]
      rw [hb]
      have i1 := ih (a + 1) _ r2 (by have := st1_len out (g p (g out a)); have := st1_len (st1 out (g p (g out a))) (g q (g out a)); omega) (by omega)
      refine reach_one p q out [g p (g out a), g q (g out a)] a 0 (by simp) (by simp) (by omega) _ ?_
      refine reach_one p q _ [g p (g out a), g q (g out a)] a 1 (by simp) (by simp) (by have := r1.le; simp only [g, List.getD_cons_zero] at this ⊢; omega) _ ?_
      refine ev_succ ?_
      have h7 : ¬ (((1 + 1 : Nat) : Int) < (([g p (g out a), g q (g out a)] : List Nat).length : Int)) := by simp
      simp only [spec_l02Reach.l1, h7, h6, if_false]
      exact i1
    · have h1 : ¬ ((a : Int) < (out.length : Int)) := by omega
      have hb : bfs p q (f + 1) a out = out := by rw [bfs, if_neg h]
      rw [hb]
      simp only [spec_l02Reach.l0, h1, I_len', if_false]
      exact Ev.now _
theorem reach_ev {p q : List Nat} (hp : IsP p) (hq : IsP q) (hl : q.length = p.length) (h24 : p.length ≤ 24) (s : Nat) (hs : s < p.length) : Ev (fun k => spec_l02Reach.f k (I p) (I q) (s : Int)) (I (reach p q s)) := by
  unfold spec_l02Reach.f reach
  exact reach_loop hp hq hl h24 (p.length + 1) 0 [s] ⟨by simp, by simpa using hs⟩ (by simp) (by omega)
theorem len_ne_false {r u : List Int} (h : r.length ≠ u.length) : surfB r u = false := by
  unfold surfB
  simp [h]
theorem surfB_mk {r u : List Int} (h1 : permB r = true) (h2 : permB u = true) (h3 : r.length = u.length) (h4 : 0 < r.length) : surfB r u = ((reach (N r) (N u) 0).length == r.length) := by
  unfold surfB
  simp [h1, h2, h3, h4]
  intro _
  omega
theorem spec_trans (r u : List Int) : Ev (fun k => spec_IsTransitive.f k r u) (surfB r u) := by
  unfold spec_IsTransitive.f
  refine Ev.bind (spec_permOk r) ?_
  by_cases h1 : permB r = true
  · simp only [h1, if_true]
    refine Ev.bind (spec_permOk u) ?_
    by_cases h2 : permB u = true
    · simp only [h2, if_true]
      by_cases h3 : (r.length : Int) = (u.length : Int)
      · have h3' : r.length = u.length := by omega
        by_cases h4 : (r.length : Int) > 0
        · have h4' : 0 < r.length := by omega
          rw [surfB_mk h1 h2 h3' h4']
          obtain ⟨p, rfl, a1, a2⟩ := PI_nat (of_decide_eq_true h1)
          obtain ⟨q, rfl, b1, b2⟩ := PI_nat (of_decide_eq_true h2)
          rw [I_len, I_len] at h3'
          rw [I_len] at h4'
          have := reach_ev a1 b1 h3'.symm a2 0 h4'
          simp only [h3, h4, if_true]
          rw [h3] at h4
          simp only [h4, if_true]
          refine Ev.bind this ?_
          rw [N_I, N_I]
          have e : (((I (reach p q 0)).length : Int) == ((I q).length : Int)) = ((reach p q 0).length == (I p).length) := by
            rw [I_len, I_len, I_len, Bool.eq_iff_iff, beq_iff_eq, beq_iff_eq]
            omega
          rw [← h3] at e
          simp only [h3] at e
          rw [← e]
          exact Ev.now _
        · simp only [h3, if_true]
          rw [h3] at h4
          simp only [h4, if_false]
          have : surfB r u = false := by
            unfold surfB
            have : ¬ 0 < r.length := by omega
            simp [this]
          rw [this]
          exact Ev.now _
      · simp only [h3, if_false]
        rw [len_ne_false (by omega)]
        exact Ev.now _
    · have h2' := Bool.eq_false_iff.mpr h2
      simp only [h2', Bool.false_eq_true, if_false]
      have : surfB r u = false := by unfold surfB; simp [h2']
      rw [this]
      exact Ev.now _
  · have h1' := Bool.eq_false_iff.mpr h1
    simp only [h1', Bool.false_eq_true, if_false]
    have : surfB r u = false := by unfold surfB; simp [h1']
    rw [this]
    exact Ev.now _
theorem spec_surf (r u : List Int) : Ev (fun k => spec_SurfaceOk.f k r u) (surfB r u) := by
  unfold spec_SurfaceOk.f
  exact Ev.bind (spec_trans r u) (Ev.now _)
def Marks (n : Nat) (s : List Bool) (out : List Nat) : Prop := s.length = n ∧ ∀ x, x < n → (s.getD x false = true ↔ x ∈ out)
theorem Marks.add {n : Nat} {s : List Bool} {out : List Nat} {x : Nat} (h : Marks n s out) (hx : x < n) : Marks n (s.set x true) (out ++ [x]) := by
  refine ⟨by rw [List.length_set]; exact h.1, fun y hy => ?_⟩
  rw [getD_set s x y (by rw [h.1]; exact hx)]
  by_cases e : x = y
  · subst e
    simp
  · rw [if_neg e, h.2 y hy]
    have : ¬ y = x := fun k => e k.symm
    simp [this]
theorem trans_one (p q out pr : List Nat) (s : List Bool) (a : Nat) (j : Nat) (hj : j < pr.length) (hp : pr.length ≤ 2) (hl : out.length ≤ 1000) (hm : Marks p.length s out) (hx : g pr j < p.length) (r : Bool)
    (H : ∀ s', Marks p.length s' (st1 out (g pr j)) → Ev (fun k => impl_IsTransitive.l1 k (I p) (I q) s' (I (st1 out (g pr j))) (a : Int) (I pr) (pr.length : Int) ((j + 1 : Nat) : Int)) r) :
    Ev (fun k => impl_IsTransitive.l1 k (I p) (I q) s (I out) (a : Int) (I pr) (pr.length : Int) (j : Int)) r := by
  refine ev_succ ?_
  have h1 : (j : Int) < (pr.length : Int) := by omega
  have h2 : (0 : Int) ≤ (j : Int) := by omega
  have h3 := w64s j (by omega)
  have h4 : (I out).length < 17592186044416 := by rw [I_len]; omega
  have h5 : (0 : Int) ≤ ((g pr j : Nat) : Int) := by omega
  have h6 : ((g pr j : Nat) : Int) < (s.length : Int) := by rw [hm.1]; omega
  simp only [impl_IsTransitive.l1, h1, h2, h3, h4, h5, h6, rdI, I_len', rdOf_nat, if_true, Int.toNat_natCast]
  by_cases hin : g pr j ∈ out
  · have hs := (hm.2 _ hx).mpr hin
    have e : st1 out (g pr j) = out := by unfold st1; rw [if_pos hin]
    have := H s (by rw [e]; exact hm)
    rw [e] at this
    simp only [hs, if_true]
    exact this
  · have hs : s.getD (g pr j) false = false := Bool.eq_false_iff.mpr (fun h => hin ((hm.2 _ hx).mp h))
    have e : st1 out (g pr j) = out ++ [g pr j] := by unfold st1; rw [if_neg hin]
    have := H (s.set (g pr j) true) (by rw [e]; exact hm.add hx)
    rw [e, ← I_snoc] at this
    simp only [hs, Bool.false_eq_true, if_false]
    exact this
theorem trans_loop {p q : List Nat} (hp : IsP p) (hq : IsP q) (hl : q.length = p.length) (h24 : p.length ≤ 24) (f : Nat) : ∀ (a : Nat) (out : List Nat) (s : List Bool), RInv p.length out → Marks p.length s out → a ≤ out.length → p.length < f + a →
    Ev (fun k => impl_IsTransitive.l0 k (I p) (I q) s (I out) (a : Int)) ((bfs p q f a out).length == p.length) := by
  induction f with
  | zero =>
    intro a out s hr hm ha hf
    have := hr.le
    omega
  | succ f ih =>
    intro a out s hr hm ha hf
    have hle := hr.le
    refine ev_succ ?_
    by_cases h : a < out.length
    · have h1 : (a : Int) < (out.length : Int) := by omega
      have h2 : (0 : Int) ≤ (a : Int) := by omega
      have hx := hr.g h
      have h3 : ((g out a : Nat) : Int) < (p.length : Int) := by omega
      have h4 : (0 : Int) ≤ ((g out a : Nat) : Int) := by omega
      have h5 : ((g out a : Nat) : Int) < (q.length : Int) := by omega
      have h6 := w64s a (by omega)
      simp only [impl_IsTransitive.l0, h1, h2, h3, h4, h5, rdI, I_len', if_true, Option.bind_some, I_pair]
      have hg1 := g_lt hp hx
      have hg2 : g q (g out a) < p.length := by have := g_lt hq (i := g out a) (by omega); omega
      have r1 := hr.st hg1
      have r2 := r1.st hg2
      have hb : bfs p q (f + 1) a out = bfs p q f (a + 1) (st1 (st1 out (g p (g out a))) (g q (g out a))) := by
        rw [bfs, if_pos h]
      rw [hb]
      refine trans_one p q out [g p (g out a), g q (g out a)] s a 0 (by simp) (by simp) (by omega) hm hg1 _ (fun s1 hm1 => ?_)
      refine trans_one p q _ [g p (g out a), g q (g out a)] s1 a 1 (by simp) (by simp) (by have := r1.le; simp only [g, List.getD_cons_zero] at this ⊢; omega) hm1 hg2 _ (fun s2 hm2 => ?_)
      refine ev_succ ?_
      have h7 : ¬ (((1 + 1 : Nat) : Int) < (([g p (g out a), g q (g out a)] : List Nat).length : Int)) := by simp
      simp only [impl_IsTransitive.l1, h7, h6, if_false]
      exact ih (a + 1) _ s2 r2 hm2 (Nat.le_trans (by omega : a + 1 ≤ out.length) (Nat.le_trans (st1_len _ _) (st1_len _ _))) (by omega)
    · have h1 : ¬ ((a : Int) < (out.length : Int)) := by omega
      have hb : bfs p q (f + 1) a out = out := by rw [bfs, if_neg h]
      rw [hb]
      simp only [impl_IsTransitive.l0, h1, I_len', if_false]
      have e : ((out.length : Int) == (p.length : Int)) = (out.length == p.length) := by
        rw [Bool.eq_iff_iff, beq_iff_eq, beq_iff_eq]
        omega
      rw [e]
      exact Ev.now _
theorem j0_true (r u : List Int) : Ev (fun k => impl_IsTransitive.j0 k r u true) false := by
  refine ev_succ ?_
  simp only [impl_IsTransitive.j0, if_true]
  exact Ev.now _
theorem impl_trans (r u : List Int) : Ev (fun k => impl_IsTransitive.f k r u) (surfB r u) := by
  unfold impl_IsTransitive.f
  refine Ev.bind (impl_permOk r) ?_
  by_cases h1 : permB r = true
  · simp only [h1, if_true]
    refine Ev.bind (impl_permOk u) ?_
    by_cases h2 : permB u = true
    · simp only [h2, if_true]
      by_cases h3 : (r.length : Int) = (u.length : Int)
      · have h3' : r.length = u.length := by omega
        simp only [h3, if_true]
        by_cases h4 : 0 < r.length
        · rw [surfB_mk h1 h2 h3' h4]
          obtain ⟨p, rfl, a1, a2⟩ := PI_nat (of_decide_eq_true h1)
          obtain ⟨q, rfl, b1, b2⟩ := PI_nat (of_decide_eq_true h2)
          rw [I_len, I_len] at h3'
          rw [I_len] at h4
          refine ev_succ ?_
          have e0 : ((q.length : Int) == 0) = false := by rw [beq_eq_false_iff_ne]; omega
          have e1 : (0 : Int) ≤ (p.length : Int) := by omega
          have e2 : ((p.length : Int)).toNat ≤ 281474976710656 := by omega
          have e3 : (0 : Int) < ((List.replicate p.length false).length : Int) := by rw [List.length_replicate]; omega
          simp only [impl_IsTransitive.j0, e0, I_len', e1, e2, Bool.false_eq_true, if_true, if_false, Option.bind_some, Int.toNat_natCast, e3]
          simp only [Int.toNat_natCast] at e2
          simp only [e2, if_true]
          rw [N_I, N_I, I_len]
          refine trans_loop a1 b1 h3'.symm a2 (p.length + 1) 0 [0] _ ⟨by simp, by simpa using h4⟩ ?_ (by simp) (by omega)
          refine ⟨by simp, fun x hx => ?_⟩
          have : (0 : Int).toNat = 0 := rfl
          rw [this, getD_set _ 0 x (by simp; omega)]
          by_cases e : 0 = x
          · subst e
            simp
          · rw [if_neg e]
            have h0 : ¬ x = 0 := fun h => e h.symm
            have : (List.replicate p.length false).getD x false = false := by
              rw [List.getD_eq_getElem?_getD, List.getElem?_replicate]
              simp [hx]
            rw [this]
            simp [h0]
        · have e0 : ((u.length : Int) == 0) = true := by rw [beq_iff_eq]; omega
          have : surfB r u = false := by unfold surfB; simp [h4]
          rw [this]
          simp only [e0]
          exact j0_true r u
      · simp only [h3, if_false]
        rw [len_ne_false (by omega)]
        exact j0_true r u
    · have h2' := Bool.eq_false_iff.mpr h2
      simp only [h2', Bool.false_eq_true, if_false]
      have : surfB r u = false := by unfold surfB; simp [h2']
      rw [this]
      exact j0_true r u
  · have h1' := Bool.eq_false_iff.mpr h1
    simp only [h1', Bool.false_eq_true, if_false]
    have : surfB r u = false := by unfold surfB; simp [h1']
    rw [this]
    exact j0_true r u
theorem impl_surf (r u : List Int) : Ev (fun k => impl_SurfaceOk.f k r u) (surfB r u) := by
  unfold impl_SurfaceOk.f
  exact Ev.bind (impl_trans r u) (Ev.now _)
end Go.Proofs.Ytbdnellgioimbaa.M
end
section
/- What every law does with its arguments; inverses. No conditions. -/
namespace Go.Proofs.Ytbdnellgioimbaa.M
set_option linter.unusedVariables false
set_option linter.unusedSimpArgs false
open Go.RowKit Go.Proofs.YtbdnellgioimbaaW.PrintWords Go.Proofs.YtbdnellgioimbaaW.PrintLast Go.Proofs.YtbdnellgioimbaaW.PrintMore Go.Proofs.Ytbdnellgioimbaa.A
theorem rd_set {l : List Int} {i j : Nat} {x : Int} (h : i < l.length) : rd (l.set i x) (j : Int) = if i = j then x else rd l (j : Int) := by
  unfold rd
  simp only [Int.toNat_natCast]
  rw [List.getD_eq_getElem?_getD, List.getD_eq_getElem?_getD, List.getElem?_set]
  by_cases e : i = j
  · subst e
    simp [h]
  · simp [e]
theorem ext_rd {a b : List Int} (hl : a.length = b.length) (h : ∀ i : Nat, i < a.length → rd a (i : Int) = rd b (i : Int)) : a = b := by
  apply List.ext_getElem hl
  intro i h1 h2
  rw [← rd_get a i h1, ← rd_get b i h2]
  exact h i h1
theorem sz_small {r u : List Int} (h : r.length + u.length ≤ 1048576) : laws_szSurface.f r u 1048576 = some (1048576 - (r.length : Int) - (u.length : Int)) := by
  unfold laws_szSurface.f laws_szIntS.f
  have e1 : wrap64 (1048576 - (r.length : Int)) = 1048576 - (r.length : Int) := w64 (by omega) (by omega)
  have e2 : wrap64 (1048576 - (r.length : Int) - (u.length : Int)) = 1048576 - (r.length : Int) - (u.length : Int) := w64 (by omega) (by omega)
  have c1 : ¬ (1048576 - (r.length : Int) < 0) := by omega
  have c2 : ¬ (1048576 - (r.length : Int) - (u.length : Int) < 0) := by omega
  simp only [e1, c1, if_false, Option.bind_some, e2, c2]
theorem sz_big {r u : List Int} (hr : r.length ≤ 9223372036854775807) (hu : u.length ≤ 9223372036854775807) (h : ¬ r.length + u.length ≤ 1048576) : laws_szSurface.f r u 1048576 = some (-1) := by
  unfold laws_szSurface.f laws_szIntS.f
  have e1 : wrap64 (1048576 - (r.length : Int)) = 1048576 - (r.length : Int) := w64 (by omega) (by omega)
  by_cases c1 : 1048576 - (r.length : Int) < 0
  · have c3 : (-1 : Int) < 0 := by omega
    simp only [e1, c1, if_true, Option.bind_some, c3]
  · have e2 : wrap64 (1048576 - (r.length : Int) - (u.length : Int)) = 1048576 - (r.length : Int) - (u.length : Int) := w64 (by omega) (by omega)
    have c2 : 1048576 - (r.length : Int) - (u.length : Int) < 0 := by omega
    have c3 : (-1 : Int) < 0 := by omega
    simp only [e1, c1, if_false, Option.bind_some, e2, c2, if_true, c3]
theorem toInts_ev (l : List Int) (h : l.length ≤ 1048576) : Ev (fun k => laws_toIntS.f k l) l := by
  unfold laws_toIntS.f
  have h1 : (0 : Int) ≤ (l.length : Int) := by omega
  have h2 : ((l.length : Int)).toNat ≤ 35184372088832 := by omega
  simp only [h1, h2, if_true]
  have H : ∀ (d i : Nat) (c : List Int), i + d = l.length → c.length = l.length → (∀ j : Nat, j < i → rd c (j : Int) = rd l (j : Int)) → Ev (fun k => laws_toIntS.l0 k l c (i : Int)) l := by
    intro d
    induction d with
    | zero =>
      intro i c h hc hx
      refine ev_succ ?_
      have h1 : ¬ ((i : Int) < (l.length : Int)) := by omega
      have e : c = l := ext_rd hc (fun j hj => hx j (by omega))
      simp only [laws_toIntS.l0, h1, if_false]
      rw [e]
      exact Ev.now _
    | succ d ih =>
      intro i c h hc hx
      refine ev_succ ?_
      have h1 : (i : Int) < (l.length : Int) := by omega
      have h2 : (0 : Int) ≤ (i : Int) := by omega
      have h3 : (i : Int) < (c.length : Int) := by omega
      have h4 := w64s i (by omega)
      simp only [laws_toIntS.l0, h1, h2, h3, h4, if_true, Int.toNat_natCast]
      refine ih (i + 1) _ (by omega) (by rw [List.length_set]; exact hc) (fun j hj => ?_)
      rw [rd_set (by omega)]
      by_cases e : i = j
      · subst e
        simp
      · rw [if_neg e]
        exact hx j (by omega)
  exact H l.length 0 _ (by omega) (by rw [List.length_replicate]; omega) (fun j hj => by omega)
theorem toSurf_ev (r u : List Int) (hr : r.length ≤ 1048576) (hu : u.length ≤ 1048576) : Ev (fun k => laws_toSurface.f k r u) (r, u) := by
  unfold laws_toSurface.f
  exact Ev.bind (toInts_ev r hr) (Ev.bind (toInts_ev u hu) (Ev.now _))
theorem eqInts_ev (a b : List Int) (ha : a.length ≤ 9000000000000000000) : Ev (fun k => laws_eqIntS.f k a b) (decide (a = b)) := by
  unfold laws_eqIntS.f
  by_cases hl : (a.length : Int) = (b.length : Int)
  · simp only [hl, if_true]
    have hl' : a.length = b.length := by omega
    have H : ∀ d i : Nat, i + d = a.length → ∃ c, Ev (fun k => laws_eqIntS.l0 k a b (i : Int)) c ∧ (c = true ↔ ∀ j : Nat, i ≤ j → j < a.length → rd a (j : Int) = rd b (j : Int)) := by
      intro d
      induction d with
      | zero =>
        intro i h
        refine ⟨true, ev_succ ?_, by simp; intro j h1 h2; omega⟩
        have h1 : ¬ ((i : Int) < (a.length : Int)) := by omega
        simp only [laws_eqIntS.l0, h1, if_false]
        exact Ev.now _
      | succ d ih =>
        intro i h
        have h1 : (i : Int) < (a.length : Int) := by omega
        have h2 : (0 : Int) ≤ (i : Int) := by omega
        have h3 : (i : Int) < (b.length : Int) := by omega
        have h4 := w64s i (by omega)
        by_cases c : rd a (i : Int) = rd b (i : Int)
        · obtain ⟨c', i1, i2⟩ := ih (i + 1) (by omega)
          refine ⟨c', ev_succ ?_, by
            rw [i2]
            constructor
            · intro k j j1 j2
              by_cases e : j = i
              · subst e; exact c
              · exact k j (by omega) j2
            · intro k j j1 j2
              exact k j (by omega) j2⟩
          simp only [laws_eqIntS.l0, h1, h2, h3, h4, c, if_true]
          exact i1
        · refine ⟨false, ev_succ ?_, by
            simp only [Bool.false_eq_true, false_iff]
            intro k
            exact c (k i (Nat.le_refl _) (by omega))⟩
          simp only [laws_eqIntS.l0, h1, h2, h3, c, if_true, if_false]
          exact Ev.now _
    obtain ⟨c, i1, i2⟩ := H a.length 0 (by omega)
    have : decide (a = b) = c := by
      rw [Bool.eq_iff_iff, i2, decide_eq_true_iff]
      constructor
      · intro e j _ _
        rw [e]
      · intro k
        exact ext_rd hl' (fun j hj => k j (Nat.zero_le _) hj)
    rw [this]
    exact i1
  · simp only [hl, if_false]
    have : decide (a = b) = false := by
      rw [decide_eq_false_iff_not]
      intro e
      exact hl (by rw [e])
    rw [this]
    exact Ev.now _
theorem eqInts_same (a : List Int) (ha : a.length ≤ 9000000000000000000) : Ev (fun k => laws_eqIntS.f k a a) true := by
  have := eqInts_ev a a ha
  simpa using this
theorem eqSurf_same (r u : List Int) (hr : r.length ≤ 9000000000000000000) (hu : u.length ≤ 9000000000000000000) : Ev (fun k => laws_eqSurface.f k r u r u) true := by
  unfold laws_eqSurface.f
  refine Ev.bind (eqInts_same r hr) ?_
  simp only [if_true]
  refine Ev.bind (eqInts_same u hu) ?_
  simp only [if_true]
  exact Ev.now _
end Go.Proofs.Ytbdnellgioimbaa.M
end
section
/- Slopes and paths: the program and the reference answer alike. No conditions. -/
namespace Go.Proofs.Ytbdnellgioimbaa.M
set_option linter.unusedVariables false
set_option linter.unusedSimpArgs false
open Go.RowKit Go.Proofs.YtbdnellgioimbaaW.PrintWords Go.Proofs.YtbdnellgioimbaaW.PrintLast Go.Proofs.YtbdnellgioimbaaW.PrintMore Go.Proofs.Ytbdnellgioimbaa.A
def slopeOkI (p q : Int) : Bool := (impl_SlopeOk.f 60 p q).getD false
def slopeWordI (p q : Int) : ByteArray := (impl_SlopeWord.f 60 p q).getD ⟨#[]⟩
theorem slope_tab : ∀ a : Fin 13, ∀ b : Fin 13, spec_SlopeOk.f 60 (a.val : Int) (b.val : Int) = some (slopeOkI (a.val : Int) (b.val : Int)) ∧ impl_SlopeOk.f 60 (a.val : Int) (b.val : Int) = some (slopeOkI (a.val : Int) (b.val : Int)) := by decide +kernel
theorem slopeW_tab : ∀ a : Fin 13, ∀ b : Fin 13, spec_SlopeWord.f 60 (a.val : Int) (b.val : Int) = some (slopeWordI (a.val : Int) (b.val : Int)) ∧ impl_SlopeWord.f 60 (a.val : Int) (b.val : Int) = some (slopeWordI (a.val : Int) (b.val : Int)) ∧ (slopeWordI (a.val : Int) (b.val : Int)).size ≤ 12 := by decide +kernel
theorem slope_out {p q : Int} (h : ¬ ((0 ≤ p ∧ p ≤ 12) ∧ (0 ≤ q ∧ q ≤ 12))) (k : Nat) : spec_SlopeOk.f k p q = some false ∧ impl_SlopeOk.f k p q = some false := by
  unfold spec_SlopeOk.f impl_SlopeOk.f spec_l01In.f
  by_cases h1 : 0 ≤ p
  · by_cases h2 : p ≤ 12
    · by_cases h3 : 0 ≤ q
      · have h4 : ¬ q ≤ 12 := by omega
        simp [h1, h2, h3, h4]
      · simp [h1, h2, h3]
    · by_cases h3 : 0 ≤ q <;> simp [h1, h2, h3]
  · simp [h1]
theorem slope_false {p q : Int} (h : ¬ ((0 ≤ p ∧ p ≤ 12) ∧ (0 ≤ q ∧ q ≤ 12))) : slopeOkI p q = false := by
  unfold slopeOkI
  rw [(slope_out h 60).2]
  rfl
theorem slopes_ev (p q : Int) : Ev (fun k => spec_SlopeOk.f k p q) (slopeOkI p q) ∧ Ev (fun k => impl_SlopeOk.f k p q) (slopeOkI p q) := by
  by_cases h : (0 ≤ p ∧ p ≤ 12) ∧ (0 ≤ q ∧ q ≤ 12)
  · obtain ⟨⟨h1, h2⟩, h3, h4⟩ := h
    obtain ⟨a, rfl⟩ : ∃ a : Nat, p = a := ⟨p.toNat, by omega⟩
    obtain ⟨b, rfl⟩ : ∃ b : Nat, q = b := ⟨q.toNat, by omega⟩
    have := slope_tab ⟨a, by omega⟩ ⟨b, by omega⟩
    exact ⟨Ev.of (fun k => spec_SlopeOk.mono _ _ k) this.1, Ev.of (fun k => impl_SlopeOk.mono _ _ k) this.2⟩
  · rw [slope_false h]
    exact ⟨⟨0, fun k _ => (slope_out h k).1⟩, ⟨0, fun k _ => (slope_out h k).2⟩⟩
theorem slope_in {p q : Int} (h : slopeOkI p q = true) : (0 ≤ p ∧ p ≤ 12) ∧ (0 ≤ q ∧ q ≤ 12) := by
  apply Classical.byContradiction
  intro k
  rw [slope_false k] at h
  cases h
theorem words_ev {p q : Int} (h : slopeOkI p q = true) : Ev (fun k => spec_SlopeWord.f k p q) (slopeWordI p q) ∧ Ev (fun k => impl_SlopeWord.f k p q) (slopeWordI p q) ∧ (slopeWordI p q).size ≤ 12 := by
  obtain ⟨⟨h1, h2⟩, h3, h4⟩ := slope_in h
  obtain ⟨a, rfl⟩ : ∃ a : Nat, p = a := ⟨p.toNat, by omega⟩
  obtain ⟨b, rfl⟩ : ∃ b : Nat, q = b := ⟨q.toNat, by omega⟩
  have := slopeW_tab ⟨a, by omega⟩ ⟨b, by omega⟩
  exact ⟨Ev.of (fun k => spec_SlopeWord.mono _ _ k) this.1, Ev.of (fun k => impl_SlopeWord.mono _ _ k) this.2.1, this.2.2⟩
theorem spec_id (n : Nat) (h : n ≤ 1000) : Ev (fun k => spec_l02Identity.f k (n : Int)) (I (idn n)) := by
  unfold spec_l02Identity.f
  have H : ∀ d i : Nat, i + d = n → Ev (fun k => spec_l02Identity.l0 k (n : Int) (I (idn i)) (i : Int)) (I (idn n)) := by
    intro d
    induction d with
    | zero =>
      intro i h
      obtain rfl : i = n := by omega
      refine ev_succ ?_
      have h1 : ¬ ((i : Int) < (i : Int)) := by omega
      simp only [spec_l02Identity.l0, h1, if_false]
      exact Ev.now _
    | succ d ih =>
      intro i h
      refine ev_succ ?_
      have h1 : (i : Int) < (n : Int) := by omega
      have h2 := w64s i (by omega)
      have h3 : (I (idn i)).length < 17592186044416 := by rw [I_len, idn_len]; omega
      have e : idn i ++ [i] = idn (i + 1) := by unfold idn tab; rw [List.range_succ]; simp
      simp only [spec_l02Identity.l0, h1, h2, h3, if_true, I_snoc, e]
      exact ih (i + 1) (by omega)
  exact H n 0 (by omega)
theorem tab_snoc (i : Nat) (f : Nat → Nat) : tab i f ++ [f i] = tab (i + 1) f := by unfold tab; rw [List.range_succ]; simp
theorem spec_then {p q : List Nat} (hp : ∀ i, i < p.length → g p i < q.length) (h : p.length ≤ 1000) : Ev (fun k => spec_l02Then.f k (I p) (I q)) (I (thn p q)) := by
  unfold spec_l02Then.f
  have H : ∀ d i : Nat, i + d = p.length → Ev (fun k => spec_l02Then.l0 k (I q) (I (tab i (fun i => g q (g p i)))) (I p) (p.length : Int) (i : Int)) (I (thn p q)) := by
    intro d
    induction d with
    | zero =>
      intro i h
      obtain rfl : i = p.length := by omega
      refine ev_succ ?_
      have h1 : ¬ ((p.length : Int) < (p.length : Int)) := by omega
      simp only [spec_l02Then.l0, h1, if_false]
      exact Ev.now _
    | succ d ih =>
      intro i h
      have hi : i < p.length := by omega
      have hg := hp i hi
      refine ev_succ ?_
      have h1 : (i : Int) < (p.length : Int) := by omega
      have h2 := w64s i (by omega)
      have h3 : (I (tab i (fun i => g q (g p i)))).length < 17592186044416 := by rw [I_len, tab_len]; omega
      have h4 : (0 : Int) ≤ (i : Int) := by omega
      have h5 : (0 : Int) ≤ ((g p i : Nat) : Int) := by omega
      have h6 : ((g p i : Nat) : Int) < (q.length : Int) := by omega
      have e := tab_snoc i (fun i => g q (g p i))
      simp only [spec_l02Then.l0, h1, h2, h3, h4, h5, h6, rdI, I_len', if_true, I_snoc, e]
      exact ih (i + 1) (by omega)
  have := H p.length 0 (by omega)
  simp only [I_len']
  exact this
def wk (r u : List Nat) (w : ByteArray) : Nat → Nat → Nat
  | 0, x => x
  | j + 1, x => if bt w (j : Int) = 114 then g r (wk r u w j x) else g u (wk r u w j x)
theorem wk_lt {r u : List Nat} (hs : Sf r u) (w : ByteArray) (j : Nat) {x : Nat} (hx : x < r.length) : wk r u w j x < r.length := by
  induction j with
  | zero => exact hx
  | succ j ih =>
    unfold wk
    split
    · exact g_lt hs.pr ih
    · have := g_lt hs.pu (i := wk r u w j x) (by rw [hs.eq]; exact ih)
      rw [hs.eq] at this
      exact this
theorem wk_inj {r u : List Nat} (hs : Sf r u) (w : ByteArray) (j : Nat) {x y : Nat} (hx : x < r.length) (hy : y < r.length) (h : wk r u w j x = wk r u w j y) : x = y := by
  induction j with
  | zero => exact h
  | succ j ih =>
    unfold wk at h
    split at h
    · exact ih (g_inj hs.pr (wk_lt hs w j hx) (wk_lt hs w j hy) h)
    · exact ih (g_inj hs.pu (by rw [hs.eq]; exact wk_lt hs w j hx) (by rw [hs.eq]; exact wk_lt hs w j hy) h)
def pathL (r u : List Nat) (w : ByteArray) : List Nat := tab r.length (wk r u w w.size)
theorem pathL_len (r u : List Nat) (w : ByteArray) : (pathL r u w).length = r.length := tab_len _ _
theorem isP_pathL {r u : List Nat} (hs : Sf r u) (w : ByteArray) : IsP (pathL r u w) :=
  isP_tab (fun i hi => wk_lt hs w _ hi) (fun i j hi hj e => wk_inj hs w _ hi hj e)
theorem spec_path {r u : List Nat} (hs : Sf r u) (w : ByteArray) (hw : w.size ≤ 1000) : Ev (fun k => spec_l09Path.f k (I r) (I u) w) (I (pathL r u w)) := by
  unfold spec_l09Path.f
  have hle := hs.le
  have hid := spec_id r.length (by omega)
  simp only [I_len']
  refine Ev.bind hid ?_
  have H : ∀ d i : Nat, i + d = w.size → Ev (fun k => spec_l09Path.l0 k w (I (tab r.length (wk r u w i))) (i : Int) (I r) (I u)) (I (pathL r u w)) := by
    intro d
    induction d with
    | zero =>
      intro i h
      obtain rfl : i = w.size := by omega
      refine ev_succ ?_
      have h1 : ¬ ((w.size : Int) < (w.size : Int)) := by omega
      simp only [spec_l09Path.l0, h1, if_false]
      exact Ev.now _
    | succ d ih =>
      intro i h
      refine ev_succ ?_
      have h1 : (i : Int) < (w.size : Int) := by omega
      have h2 : (0 : Int) ≤ (i : Int) := by omega
      have h3 := w64s i (by omega)
      have hl : (tab r.length (wk r u w i)).length = r.length := tab_len _ _
      have i1 := ih (i + 1) (by omega)
      by_cases c : bt w (i : Int) = 114
      · have t := spec_then (p := tab r.length (wk r u w i)) (q := r) (fun j hj => by rw [hl] at hj; rw [g_tab hj]; exact wk_lt hs w i hj) (by omega)
        have e : thn (tab r.length (wk r u w i)) r = tab r.length (wk r u w (i + 1)) :=
          eq_tab (by rw [thn_len, hl]) (fun j hj => by rw [g_thn (by rw [hl]; exact hj), g_tab hj, wk, if_pos c])
        rw [e] at t
        simp only [spec_l09Path.l0, h1, h2, h3, c, if_true]
        exact Ev.bind t i1
      · have t := spec_then (p := tab r.length (wk r u w i)) (q := u) (fun j hj => by rw [hl] at hj; rw [g_tab hj, hs.eq]; exact wk_lt hs w i hj) (by omega)
        have e : thn (tab r.length (wk r u w i)) u = tab r.length (wk r u w (i + 1)) :=
          eq_tab (by rw [thn_len, hl]) (fun j hj => by rw [g_thn (by rw [hl]; exact hj), g_tab hj, wk, if_neg c])
        rw [e] at t
        simp only [spec_l09Path.l0, h1, h2, h3, c, if_true, if_false]
        exact Ev.bind t i1
  exact H w.size 0 (by omega)
def pathP (r u : List Int) (p q : Int) : List Int × Bool := if surfB r u = true ∧ slopeOkI p q = true then (I (pathL (N r) (N u) (slopeWordI p q)), true) else ([], false)
theorem step_ev {r u : List Nat} (hs : Sf r u) {x : Nat} (hx : x < r.length) (c : Int) : impl_stepSquare.f (I r) (I u) (x : Int) c = some (((if c = 114 then g r x else g u x : Nat) : Nat) : Int) := by
  unfold impl_stepSquare.f
  have h1 : (0 : Int) ≤ (x : Int) := by omega
  have h2 : (x : Int) < (r.length : Int) := by omega
  have h3 : (x : Int) < (u.length : Int) := by rw [hs.eq]; omega
  by_cases h : c = 114
  · simp only [h, h1, h2, rdI, I_len', if_true]
  · simp only [h, h1, h3, rdI, I_len', if_true, if_false]
theorem impl_pathPerm (r u : List Int) (p q : Int) : Ev (fun k => impl_PathPerm.f k r u p q) (pathP r u p q) := by
  unfold impl_PathPerm.f
  refine Ev.bind (impl_surf r u) ?_
  by_cases h1 : surfB r u = true
  · simp only [h1, if_true]
    refine Ev.bind (slopes_ev p q).2 ?_
    refine ev_succ ?_
    by_cases h2 : slopeOkI p q = true
    · obtain ⟨r, u, rfl, rfl, hs⟩ := surf_nat h1
      obtain ⟨_, w2, w3⟩ := words_ev h2
      have hle := hs.le
      have e : pathP (I r) (I u) p q = (I (pathL r u (slopeWordI p q)), true) := by
        unfold pathP
        rw [if_pos ⟨h1, h2⟩, N_I, N_I]
      rw [e]
      simp only [impl_PathPerm.j0, h2, Bool.not_true, Bool.false_eq_true, if_false]
      refine Ev.bind w2 ?_
      generalize slopeWordI p q = w at w3
      have L1 : ∀ (i : Nat) (out : List Int) (res : List Int × Bool), i < r.length → out.length < 17592186044416 →
          Ev (fun k => impl_PathPerm.l0 k w (out ++ [((wk r u w w.size i : Nat) : Int)]) (r.length : Int) ((i + 1 : Nat) : Int) (I r) (I u)) res →
          ∀ d j : Nat, j + d = w.size → Ev (fun k => impl_PathPerm.l1 k w out ((wk r u w j i : Nat) : Int) (j : Int) (r.length : Int) (i : Int) (I r) (I u)) res := by
        intro i out res hi ho H d
        induction d with
        | zero =>
          intro j h
          obtain rfl : j = w.size := by omega
          refine ev_succ ?_
          have h1 : ¬ ((w.size : Int) < (w.size : Int)) := by omega
          have h2 := w64s i (by omega)
          simp only [impl_PathPerm.l1, h1, h2, ho, if_true, if_false]
          exact H
        | succ d ih =>
          intro j h
          refine ev_succ ?_
          have h1 : (j : Int) < (w.size : Int) := by omega
          have h2 : (0 : Int) ≤ (j : Int) := by omega
          have h3 := w64s j (by omega)
          have := step_ev hs (wk_lt hs w j hi) (bt w (j : Int))
          simp only [impl_PathPerm.l1, h1, h2, h3, this, if_true, Option.bind_some]
          have := ih (j + 1) (by omega)
          rw [wk] at this
          exact this
      have L0 : ∀ d i : Nat, i + d = r.length → Ev (fun k => impl_PathPerm.l0 k w (I (tab i (wk r u w w.size))) (r.length : Int) (i : Int) (I r) (I u)) (I (pathL r u w), true) := by
        intro d
        induction d with
        | zero =>
          intro i h
          obtain rfl : i = r.length := by omega
          refine ev_succ ?_
          have h1 : ¬ ((r.length : Int) < (r.length : Int)) := by omega
          simp only [impl_PathPerm.l0, h1, if_false]
          exact Ev.now _
        | succ d ih =>
          intro i h
          refine ev_succ ?_
          have h1 : (i : Int) < (r.length : Int) := by omega
          simp only [impl_PathPerm.l0, h1, if_true]
          have i1 := ih (i + 1) (by omega)
          rw [← tab_snoc, ← I_snoc] at i1
          exact L1 i _ _ (by omega) (by rw [I_len, tab_len]; omega) i1 w.size 0 (by omega)
      have := L0 r.length 0 (by omega)
      simp only [I_len']
      exact this
    · have h2' := Bool.eq_false_iff.mpr h2
      have e : pathP r u p q = ([], false) := by
        unfold pathP
        rw [if_neg (fun h => h2 h.2)]
      rw [e]
      simp only [impl_PathPerm.j0, h2', Bool.not_false, if_true]
      exact Ev.now _
  · have h1' := Bool.eq_false_iff.mpr h1
    have e : pathP r u p q = ([], false) := by
      unfold pathP
      rw [if_neg (fun h => h1 h.1)]
    rw [e]
    simp only [h1', Bool.false_eq_true, if_false]
    refine ev_succ ?_
    simp only [impl_PathPerm.j0, if_true]
    exact Ev.now _
end Go.Proofs.Ytbdnellgioimbaa.M
end
section
/- Rounds of paths: the program and the reference answer alike. No conditions. -/
namespace Go.Proofs.Ytbdnellgioimbaa.M
set_option linter.unusedVariables false
set_option linter.unusedSimpArgs false
open Go.RowKit Go.Proofs.YtbdnellgioimbaaW.PrintWords Go.Proofs.YtbdnellgioimbaaW.PrintLast Go.Proofs.YtbdnellgioimbaaW.PrintMore Go.Proofs.Ytbdnellgioimbaa.A
def itr (p : List Nat) : Nat → Nat → Nat
  | 0, s => s
  | m + 1, s => g p (itr p m s)
theorem itr_lt {p : List Nat} (hp : IsP p) (m : Nat) {s : Nat} (hs : s < p.length) : itr p m s < p.length := by
  induction m with
  | zero => exact hs
  | succ m ih => exact g_lt hp ih
theorem itr_back {p : List Nat} (hp : IsP p) {s : Nat} (hs : s < p.length) (i d : Nat) (h : itr p (i + d) s = itr p i s) : itr p d s = s := by
  induction i with
  | zero =>
    have e : 0 + d = d := by omega
    rw [e] at h
    exact h
  | succ i ih =>
    have e : i + 1 + d = (i + d) + 1 := by omega
    rw [e] at h
    exact ih (g_inj hp (itr_lt hp _ hs) (itr_lt hp _ hs) h)
theorem period {p : List Nat} (hp : IsP p) {s : Nat} (hs : s < p.length) : ∃ m, 1 ≤ m ∧ m ≤ p.length ∧ itr p m s = s := by
  apply Classical.byContradiction
  intro hn
  have hd : ((List.range (p.length + 1)).map (fun m => itr p m s)).Nodup := by
    refine List.pairwise_map.mpr ?_
    refine List.pairwise_iff_getElem.mpr ?_
    intro i j hi hj hij
    rw [List.length_range] at hi hj
    rw [List.getElem_range, List.getElem_range]
    intro e
    have : itr p (j - i) s = s := itr_back hp hs i (j - i) (by
      have e2 : i + (j - i) = j := by omega
      rw [e2]
      exact e.symm)
    exact hn ⟨j - i, by omega, by omega, this⟩
  have := nodup_le p.length _ hd (fun x hx => by
    obtain ⟨m, _, rfl⟩ := List.mem_map.mp hx
    exact itr_lt hp m hs)
  simp at this
  omega
theorem rounds_both {p : List Nat} (hp : IsP p) (h24 : p.length ≤ 24) {s : Nat} (hs : s < p.length) : ∃ r : Nat, (1 ≤ r ∧ r ≤ 24 ∧ itr p r s = s) ∧ Ev (fun k => spec_PathRounds.l0 k (s : Int) (I p) 1 ((g p s : Nat) : Int)) (r : Int) ∧ Ev (fun k => impl_PathRounds.l0 k (s : Int) (I p) 1 ((g p s : Nat) : Int)) (r : Int) := by
  obtain ⟨m, m1, m2, m3⟩ := period hp hs
  have H : ∀ d c : Nat, c + d = m → 1 ≤ c → ∃ r : Nat, (1 ≤ r ∧ r ≤ 24 ∧ itr p r s = s) ∧ Ev (fun k => spec_PathRounds.l0 k (s : Int) (I p) (c : Int) ((itr p c s : Nat) : Int)) (r : Int) ∧ Ev (fun k => impl_PathRounds.l0 k (s : Int) (I p) (c : Int) ((itr p c s : Nat) : Int)) (r : Int) := by
    intro d
    induction d with
    | zero =>
      intro c h hc
      obtain rfl : c = m := by omega
      refine ⟨c, ⟨hc, by omega, m3⟩, ev_succ ?_, ev_succ ?_⟩
      · simp only [spec_PathRounds.l0, m3, if_true]
        exact Ev.now _
      · simp only [impl_PathRounds.l0, m3, if_true]
        exact Ev.now _
    | succ d ih =>
      intro c h hc
      by_cases e : itr p c s = s
      · refine ⟨c, ⟨hc, by omega, e⟩, ev_succ ?_, ev_succ ?_⟩
        · simp only [spec_PathRounds.l0, e, if_true]
          exact Ev.now _
        · simp only [impl_PathRounds.l0, e, if_true]
          exact Ev.now _
      · have e' : ¬ (((itr p c s : Nat) : Int) = (s : Int)) := by omega
        obtain ⟨r, i0, i1, i2⟩ := ih (c + 1) (by omega) (by omega)
        have hl := itr_lt hp c hs
        have h1 : (0 : Int) ≤ ((itr p c s : Nat) : Int) := by omega
        have h2 : ((itr p c s : Nat) : Int) < (p.length : Int) := by omega
        have h3 := w64s c (by omega)
        refine ⟨r, i0, ev_succ ?_, ev_succ ?_⟩
        · simp only [spec_PathRounds.l0, e', h1, h2, h3, rdI, I_len', if_true, if_false]
          exact i1
        · simp only [impl_PathRounds.l0, e', h1, h2, h3, rdI, I_len', if_true, if_false]
          exact i2
  exact H (m - 1) 1 (by omega) (by omega)
def okP (r u : List Int) (s p q : Int) : Prop := surfB r u = true ∧ slopeOkI p q = true ∧ 0 ≤ s ∧ s < (r.length : Int)
theorem pathRounds_full (r u : List Int) (s p q : Int) : ∃ n : Nat, (n ≤ 24 ∧ (okP r u s p q → 1 ≤ n ∧ itr (pathL (N r) (N u) (slopeWordI p q)) n s.toNat = s.toNat) ∧ (¬ okP r u s p q → n = 0)) ∧ Ev (fun k => spec_PathRounds.f k r u s p q) (n : Int) ∧ Ev (fun k => impl_PathRounds.f k r u s p q) (n : Int) := by
  unfold spec_PathRounds.f impl_PathRounds.f spec_l13Ok.f
  have hp := impl_pathPerm r u p q
  have j0 : ∀ (x : Int) (l : List Int), Ev (fun k => impl_PathRounds.j0 k x l true) 0 := fun x l => by
    refine ev_succ ?_
    simp only [impl_PathRounds.j0, if_true]
    exact Ev.now _
  have no : ∀ (b : Bool), b = false → Ev (fun k => if b = true then ((spec_SlopeWord.f k p q).bind fun t464 => ((spec_l09Path.f k r u t464).bind fun t465 => (if 0 ≤ s then (if s < (t465.length : Int) then (spec_PathRounds.l0 k s t465 1 (rd t465 s)) else (none)) else (none)))) else (some 0)) (0 : Int) := fun b hb => by
    subst hb
    simp only [Bool.false_eq_true, if_false]
    exact Ev.now _
  by_cases h1 : surfB r u = true
  · by_cases h2 : slopeOkI p q = true
    · obtain ⟨r, u, rfl, rfl, hs⟩ := surf_nat h1
      obtain ⟨w1, _, w3⟩ := words_ev h2
      have e : pathP (I r) (I u) p q = (I (pathL r u (slopeWordI p q)), true) := by
        unfold pathP
        rw [if_pos ⟨h1, h2⟩, N_I, N_I]
      rw [e] at hp
      have hsp := spec_path hs (slopeWordI p q) (by omega)
      have hP := isP_pathL hs (slopeWordI p q)
      have hl := pathL_len r u (slopeWordI p q)
      by_cases h3 : 0 ≤ s
      · by_cases h4 : s < (r.length : Int)
        · obtain ⟨s, rfl⟩ : ∃ t : Nat, s = t := ⟨s.toNat, by omega⟩
          obtain ⟨n, i0, i1, i2⟩ := rounds_both hP (by rw [hl]; exact hs.le) (s := s) (by omega)
          refine ⟨n, ⟨i0.2.1, fun _ => ⟨i0.1, by rw [N_I, N_I]; exact i0.2.2⟩, fun hn => (hn ⟨h1, h2, h3, by rw [I_len]; exact h4⟩).elim⟩, ?_, ?_⟩
          · refine Ev.bind (a := true) (Ev.bind (spec_surf (I r) (I u)) ?_) ?_
            · have h3' : (s : Int) ≥ 0 := h3
              simp only [h1, h3', I_len', h4, if_true]
              have := (slopes_ev p q).1
              rw [h2] at this
              exact Ev.bind this (Ev.now _)
            · simp only [if_true]
              refine Ev.bind w1 (Ev.bind hsp ?_)
              have h5 : (s : Int) < ((pathL r u (slopeWordI p q)).length : Int) := by rw [hl]; exact h4
              simp only [h3, h5, I_len', rdI, if_true]
              exact i1
          · refine Ev.bind hp ?_
            have h5 : ¬ ((s : Int) < 0) := by omega
            have h6 : decide ((s : Int) ≥ ((pathL r u (slopeWordI p q)).length : Int)) = false := by rw [decide_eq_false_iff_not, hl]; omega
            have h7 : (s : Int) < ((pathL r u (slopeWordI p q)).length : Int) := by rw [hl]; exact h4
            simp only [h5, h6, I_len', if_true, if_false]
            refine ev_succ ?_
            simp only [impl_PathRounds.j0, Bool.false_eq_true, h3, h7, I_len', rdI, if_true, if_false]
            exact i2
        · refine ⟨0, ⟨by omega, fun ho => (h4 (by have := ho.2.2.2; rw [I_len] at this; exact this)).elim, fun _ => rfl⟩, ?_, ?_⟩
          · refine Ev.bind (a := false) (Ev.bind (spec_surf (I r) (I u)) ?_) (no false rfl)
            have h3' : s ≥ 0 := h3
            simp only [h1, h3', I_len', h4, if_true, if_false]
            exact Ev.now _
          · refine Ev.bind hp ?_
            have h5 : ¬ (s < 0) := by omega
            have h6 : decide (s ≥ ((pathL r u (slopeWordI p q)).length : Int)) = true := by rw [decide_eq_true_iff, hl]; omega
            simp only [h5, h6, I_len', if_true, if_false]
            exact j0 _ _
      · refine ⟨0, ⟨by omega, fun ho => (h3 ho.2.2.1).elim, fun _ => rfl⟩, ?_, ?_⟩
        · refine Ev.bind (a := false) (Ev.bind (spec_surf (I r) (I u)) ?_) (no false rfl)
          have h3' : ¬ s ≥ 0 := h3
          simp only [h1, h3', if_true, if_false]
          exact Ev.now _
        · refine Ev.bind hp ?_
          have h5 : s < 0 := by omega
          simp only [h5, if_true]
          exact j0 _ _
    · have h2' := Bool.eq_false_iff.mpr h2
      have e : pathP r u p q = ([], false) := by
        unfold pathP
        rw [if_neg (fun h => h2 h.2)]
      rw [e] at hp
      refine ⟨0, ⟨by omega, fun ho => (h2 ho.2.1).elim, fun _ => rfl⟩, ?_, ?_⟩
      · refine Ev.bind (a := false) (Ev.bind (spec_surf r u) ?_) (no false rfl)
        simp only [h1, if_true]
        by_cases h3 : s ≥ 0
        · simp only [h3, if_true]
          by_cases h4 : s < (r.length : Int)
          · simp only [h4, if_true]
            have := (slopes_ev p q).1
            rw [h2'] at this
            exact Ev.bind this (Ev.now _)
          · simp only [h4, if_false]
            exact Ev.now _
        · simp only [h3, if_false]
          exact Ev.now _
      · refine Ev.bind hp ?_
        simp only [Bool.false_eq_true, if_false]
        exact j0 _ _
  · have h1' := Bool.eq_false_iff.mpr h1
    have e : pathP r u p q = ([], false) := by
      unfold pathP
      rw [if_neg (fun h => h1 h.1)]
    rw [e] at hp
    refine ⟨0, ⟨by omega, fun ho => (h1 ho.1).elim, fun _ => rfl⟩, ?_, ?_⟩
    · refine Ev.bind (a := false) (Ev.bind (spec_surf r u) ?_) (no false rfl)
      simp only [h1', Bool.false_eq_true, if_false]
      exact Ev.now _
    · refine Ev.bind hp ?_
      simp only [Bool.false_eq_true, if_false]
      exact j0 _ _
end Go.Proofs.Ytbdnellgioimbaa.M
end
section
namespace Go.Proofs.Ytbdnellgioimbaa.A
open Go.RowKit Go.Proofs.YtbdnellgioimbaaW.PrintWords Go.Proofs.YtbdnellgioimbaaW.PrintLast Go.Proofs.YtbdnellgioimbaaW.PrintMore
attribute [local go_sem] max2_int min2_int max_two min_two max_three min_three max_four min_four
set_option linter.unusedVariables false
set_option linter.unusedSimpArgs false
def spec_PathText.l0 : Nat → ByteArray → ByteArray → Int → Option (ByteArray)
  | 0, _, _, _ => none
  | k + 1, x9, x10, x11 => if x11 > 0 then (if x10.size + x9.size ≤ 9223372036854775807 then (spec_PathText.l0 k x9 (x10 ++ x9) (wrap64 (x11 - 1))) else (none)) else (some x10)
def spec_PathText.f (k : Nat) (l0_0 : List Int) (l0_1 : List Int) (a1 : Int) (a2 : Int) (a3 : Int) : Option (ByteArray) := (spec_SlopeWord.f k a2 a3).bind fun t982 => ((spec_PathRounds.f k l0_0 l0_1 a1 a2 a3).bind fun t983 => (spec_PathText.l0 k t982 (⟨#[]⟩ : ByteArray) t983))
theorem spec_PathText.mono_l : ∀ k, (∀ y0 y1 y2, LeO (spec_PathText.l0 k y0 y1 y2) (spec_PathText.l0 (k + 1) y0 y1 y2))
  | 0 => fun _ _ _ r h => by simp [spec_PathText.l0] at h
  | k + 1 => by
    have ih0 := spec_PathText.mono_l k
    · intro y0 y1 y2
      unfold spec_PathText.l0
      repeat' first
      | (with_reducible exact ih0 _ _ _)
      | (with_reducible exact spec_PathRounds.mono _ _ _ _ _ _)
      | (with_reducible exact spec_SlopeWord.mono _ _ _)
      | (with_reducible exact LeO.refl _)
      | (with_reducible exact LeO.none _)
      | (with_reducible refine LeO.ite ?_ ?_)
      | (with_reducible refine LeO.bind ?_ (fun _ => ?_))
      | exact ih0 _ _ _
      | exact spec_PathRounds.mono _ _ _ _ _ _
      | exact spec_SlopeWord.mono _ _ _
      | exact LeO.none _
      | refine LeO.ite ?_ ?_
      | refine LeO.bind ?_ (fun _ => ?_)
theorem spec_PathText.mono : ∀ a0 a1 a2 a3 a4 k, LeO (spec_PathText.f k a0 a1 a2 a3 a4) (spec_PathText.f (k + 1) a0 a1 a2 a3 a4) := by
  intro a0 a1 a2 a3 a4 k
  have ih0 := spec_PathText.mono_l k
  unfold spec_PathText.f
  repeat' first
      | (with_reducible exact ih0 _ _ _)
      | (with_reducible exact spec_PathRounds.mono _ _ _ _ _ _)
      | (with_reducible exact spec_SlopeWord.mono _ _ _)
      | (with_reducible exact LeO.refl _)
      | (with_reducible exact LeO.none _)
      | (with_reducible refine LeO.ite ?_ ?_)
      | (with_reducible refine LeO.bind ?_ (fun _ => ?_))
      | exact ih0 _ _ _
      | exact spec_PathRounds.mono _ _ _ _ _ _
      | exact spec_SlopeWord.mono _ _ _
      | exact LeO.none _
      | refine LeO.ite ?_ ?_
      | refine LeO.bind ?_ (fun _ => ?_)
set_option maxHeartbeats 8000000 in
set_option maxRecDepth 100000 in
theorem spec_PathText.calls (k : Nat) (A0_0 : Option Addr) (c0_0 : Nat) (l0_0 : List Int) (A0_1 : Option Addr) (c0_1 : Nat) (l0_1 : List Int) (a1 : Int) (a2 : Int) (a3 : Int) (r : ByteArray) (w : World) (hr0_0 : Kd.C (Kd.int .i64) w A0_0 l0_0.length l0_0) (hc0_0 : l0_0.length ≤ c0_0) (hr0_1 : Kd.C (Kd.int .i64) w A0_1 l0_1.length l0_1) (hc0_1 : l0_1.length ≤ c0_1) (h : spec_PathText.f k l0_0 l0_1 a1 a2 a3 = some r) :
    Calls Try.prog 32 #[.agg #[.slice A0_0 l0_0.length c0_0, .slice A0_1 l0_1.length c0_1], .int .i64 a1, .int .i64 a2, .int .i64 a3] w fun e w' => e = .returned (.string r) ∧ Below w.heap.size w w' := by
  have hu27 := Try.underlying27
  have HR0_0 := Aside0.mk hr0_0
  have HC0_0 := Aside0.mk hc0_0
  clear hr0_0 hc0_0
  have HR0_1 := Aside0.mk hr0_1
  have HC0_1 := Aside0.mk hc0_1
  clear hr0_1 hc0_1
  have HB := Aside0.mk (Below.refl w.heap.size w)
  have H : ((spec_SlopeWord.f k a2 a3).bind fun t982 => ((spec_PathRounds.f k l0_0 l0_1 a1 a2 a3).bind fun t983 => (spec_PathText.l0 k t982 (⟨#[]⟩ : ByteArray) t983))) = some r := h
  clear h
  replace H := Option.bind_eq_some_iff.mp H
  obtain ⟨t982, A50, H⟩ := H
  replace H : ((spec_PathRounds.f k l0_0 l0_1 a1 a2 a3).bind fun t983 => (spec_PathText.l0 k t982 (⟨#[]⟩ : ByteArray) t983)) = some r := H
  have A5 := Aside0.mk A50
  clear A50
  replace H := Option.bind_eq_some_iff.mp H
  obtain ⟨t983, A60, H⟩ := H
  replace H : (spec_PathText.l0 k t982 (⟨#[]⟩ : ByteArray) t983) = some r := H
  have A6 := Aside0.mk A60
  clear A60
  have H' := Aside0.mk H
  clear H
  go_enter Try.func32, Try.ntmps32
  go_wp2_with (first | ((with_reducible refine gate_dst (N := 4) rfl ?_); refine box_event ?hg (N := 4) ?hd (cs := #[.slice A0_0 l0_0.length c0_0, .slice A0_1 l0_1.length c0_1]) (t := 27) ?hr ?_; (case hd => rfl); (case hg => rfl); (case hr => first | (go_simp; done) | (go_simp; rfl)); intro gb981 hg w7 hbox hb; have n0_ := Aside0.mk (below_step (by repeat (first | (with_reducible first | exact HB.out | apply below_alloc | apply pw_below_drewN | apply below_drew1) | exact HB.out)) hb); have n1_ := Aside0.mk (hbox); have n2_ := Aside0.mk ((by rw [hg]; exact (below_size (by repeat (first | (with_reducible first | exact HB.out | apply below_alloc | apply pw_below_drewN | apply below_drew1) | exact HB.out))) : w.heap.size ≤ gb981)); have n3_ := Aside0.mk ((by rw [hg]; exact (below_size (by repeat (first | (with_reducible first | exact HB.out | apply below_alloc | apply pw_below_drewN | apply below_drew1) | exact HB.out))) : w.heap.size ≤ gb981)); clear HB; have HB := n0_; have BK981 := n1_; have GW981 := n2_; have GE981 := n3_; clear n0_ n1_ n2_ n3_; clear hb hbox hg) | ((with_reducible refine gate_callee (f := 80) rfl ?_); refine goesL_ (some 14) rfl rfl Try.func80 (by kernel_rfl) rfl #[.int .i64 a2, .int .i64 a3] rfl (by (try simp only [List.map_toArray, List.map_cons, List.map_nil]); first | done | rfl | (simp only [List.length_drop, List.length_take]; rfl)) ?_; (with_reducible refine (spec_SlopeWord.calls k a2 a3 t982 _ A5.out).mono ?_); rintro e w' ⟨rfl, ⟨nd, rfl⟩⟩; refine ⟨_, rfl, ?_⟩; have hcz8_0 : w7.cell? ⟨gb981, 0, none⟩ = some (.slice A0_0 l0_0.length c0_0) := (blk_cell BK981.out 0).trans rfl; have hcz8_1 : w7.cell? ⟨gb981, 1, none⟩ = some (.slice A0_1 l0_1.length c0_1) := (blk_cell BK981.out 1).trans rfl; have hfz8_0 := blk_frozen BK981.out 0; have hfz8_1 := blk_frozen BK981.out 1) | ((with_reducible refine gate_callee (f := 81) rfl ?_); refine goesL_ (some 19) rfl rfl Try.func81 (by kernel_rfl) rfl #[.agg #[.slice A0_0 l0_0.length c0_0, .slice A0_1 l0_1.length c0_1], .int .i64 a1, .int .i64 a2, .int .i64 a3] rfl (by (try simp only [List.map_toArray, List.map_cons, List.map_nil]); first | done | rfl | (simp only [List.length_drop, List.length_take]; rfl)) ?_; (with_reducible refine (spec_PathRounds.calls k _ _ l0_0 _ _ l0_1 a1 a2 a3 t983 _ ?side1 ?side2 ?side3 ?side4 A6.out).mono ?_); (case side1 => repeat (first | exact (Kd.C_below HR0_0.out (by repeat (first | (with_reducible first | exact HB.out | apply below_alloc | apply pw_below_drewN | apply below_drew1 | refine below_set ?_ GE981.out) | exact HB.out))) | (with_reducible refine Kd.C_alloc ?_ _) | (with_reducible refine Kd.C_drewN ?_ _) | (with_reducible refine Kd.C_drew ?_))); (case side2 => exact HC0_0.out); (case side3 => repeat (first | exact (Kd.C_below HR0_1.out (by repeat (first | (with_reducible first | exact HB.out | apply below_alloc | apply pw_below_drewN | apply below_drew1 | refine below_set ?_ GE981.out) | exact HB.out))) | (with_reducible refine Kd.C_alloc ?_ _) | (with_reducible refine Kd.C_drewN ?_ _) | (with_reducible refine Kd.C_drew ?_))); (case side4 => exact HC0_1.out); rintro e w9 ⟨rfl, hb⟩; refine ⟨_, rfl, ?_⟩; have n0_ := Aside0.mk (blk_below (g := gb981) (o := .cells #[.slice A0_0 l0_0.length c0_0, .slice A0_1 l0_1.length c0_1] 27 (0, 0)) (by (with_reducible repeat (first | refine blk_drewN ?_ _ | refine blk_drew ?_ | refine blk_alloc ?_ _)); exact BK981.out) hb); have n1_ := Aside0.mk (below_step (by repeat (first | (with_reducible first | exact HB.out | apply below_alloc | apply pw_below_drewN | apply below_drew1 | refine below_set ?_ GE981.out) | exact HB.out)) hb); clear BK981; clear HB; have BK981 := n0_; have HB := n1_; clear n0_ n1_; (try clear hb); (try clear hb2); (try clear hk); (try clear hi)))
  go_loopg [10, 11] k (fun kq v10 v11 w' => ∃ (x10_1 : ByteArray) (x11_1 : Int), v10 = .string x10_1 ∧ v11 = .int .i64 x11_1 ∧ Aside0 (spec_PathText.l0 kq t982 x10_1 x11_1 = some r) ∧ Aside0 (kq ≤ k) ∧ Aside0 (w'.heap[gb981]? = some (.cells #[(.slice A0_0 l0_0.length c0_0), (.slice A0_1 l0_1.length c0_1)] 27 (0, 0))) ∧ Aside0 (Below w.heap.size w w'))
  case atStart => exact ⟨((⟨#[]⟩ : ByteArray)), (t983), (by first | rfl | (simp; done) | (simp [*]; done)), (by first | rfl | (simp; done) | (simp [*]; done)), H', ⟨Nat.le_refl _⟩, ⟨by (with_reducible repeat (first | refine blk_drewN ?_ _ | refine blk_drew ?_ | refine blk_alloc ?_ _)); exact BK981.out⟩, ⟨by repeat (first | (with_reducible first | exact HB.out | apply below_alloc | apply pw_below_drewN | apply below_drew1 | refine below_set ?_ GE981.out) | exact HB.out)⟩⟩
  case round =>
    clear H'
    try clear p2
    try clear c3
    try clear c8
    try clear hcz8_0
    try clear hcz8_1
    try clear hfz8_0
    try clear hfz8_1
    obtain ⟨x10_1, x11_1, rfl, rfl, HA, HK1, BK981, HB⟩ := hrel
    cases gk with
    | zero => exact absurd HA.out (by simp [spec_PathText.l0])
    | succ k1 =>
      have H := HA.out
      clear HA
      simp only [spec_PathText.l0] at H
      by_cases c10 : x11_1 > 0
      · rw [if_pos c10] at H
        have c10b0 : decide (0 < x11_1) = true := decide_eq_true c10
        clear c10
        by_cases c11 : x10_1.size + t982.size ≤ 9223372036854775807
        · rw [if_pos c11] at H
          have c11b0 := eq_true c11
          have c11b1 : decide (x10_1.size + t982.size ≤ 9223372036854775807) = true := decide_eq_true c11
          try have c11b2 : (9223372036854775807 < x10_1.size + t982.size) = False := eq_false (Nat.not_lt.2 c11)
          have H' := Aside0.mk H
          clear H
          go_wp2
          go_roundg k1
          case measure => have := HK1.out; omega
          case rel => exact ⟨(x10_1 ++ t982), (wrap64 (x11_1 - 1)), (by first | rfl | (simp; done) | (simp [*]; done)), (by first | rfl | (simp; done) | (simp [*]; done)), H', ⟨by have := HK1.out; omega⟩, ⟨by (with_reducible repeat (first | refine blk_drewN ?_ _ | refine blk_drew ?_ | refine blk_alloc ?_ _)); exact BK981.out⟩, ⟨by repeat (first | (with_reducible first | exact HB.out | apply below_alloc | apply pw_below_drewN | apply below_drew1 | refine below_set ?_ GE981.out) | exact HB.out)⟩⟩
        · rw [if_neg c11] at H
          exact absurd H (by simp)
      · rw [if_neg c10] at H
        have c10b0 : decide (0 < x11_1) = false := decide_eq_false c10
        clear c10
        obtain rfl := Option.some.inj H
        go_wp2
        go_ret
        exact ⟨by first | rfl | (simp [errW_none, errW_some] <;> rfl) | (simp [*, errW_none, errW_some] <;> rfl), by repeat (first | (with_reducible first | exact HB.out | apply below_alloc | apply pw_below_drewN | apply below_drew1 | refine below_set ?_ GE981.out) | exact HB.out)⟩
end Go.Proofs.Ytbdnellgioimbaa.A
end
section
/- The letters and squares of a path: the program and the reference answer alike. No conditions. -/
namespace Go.Proofs.Ytbdnellgioimbaa.M
set_option linter.unusedVariables false
set_option linter.unusedSimpArgs false
open Go.RowKit Go.Proofs.YtbdnellgioimbaaW.PrintWords Go.Proofs.YtbdnellgioimbaaW.PrintLast Go.Proofs.YtbdnellgioimbaaW.PrintMore Go.Proofs.Ytbdnellgioimbaa.A
def wordX (p q : Int) : ByteArray := if slopeOkI p q = true then slopeWordI p q else ⟨#[]⟩
theorem wordX_ev (p q : Int) : Ev (fun k => spec_SlopeWord.f k p q) (wordX p q) ∧ Ev (fun k => impl_SlopeWord.f k p q) (wordX p q) ∧ (wordX p q).size ≤ 12 := by
  unfold wordX
  by_cases h : slopeOkI p q = true
  · rw [if_pos h]
    exact words_ev h
  · rw [if_neg h]
    obtain ⟨h1, h2⟩ := slopes_ev p q
    have h' := Bool.eq_false_iff.mpr h
    rw [h'] at h1 h2
    refine ⟨?_, ?_, Nat.zero_le _⟩
    · unfold spec_SlopeWord.f
      refine Ev.bind h1 ?_
      simp only [Bool.false_eq_true, if_false]
      exact Ev.now _
    · unfold impl_SlopeWord.f
      refine Ev.bind h2 ?_
      simp only [Bool.false_eq_true, if_false]
      exact Ev.now _
theorem word_tab : ∀ a : Fin 13, ∀ b : Fin 13, slopeOkI (a.val : Int) (b.val : Int) = true → 1 ≤ (slopeWordI (a.val : Int) (b.val : Int)).size := by decide +kernel
theorem word_pos {p q : Int} (h : slopeOkI p q = true) : 1 ≤ (slopeWordI p q).size := by
  obtain ⟨h1, h2⟩ := slope_in h
  obtain ⟨a, rfl⟩ : ∃ a : Nat, p = a := ⟨p.toNat, by omega⟩
  obtain ⟨b, rfl⟩ : ∃ b : Nat, q = b := ⟨q.toNat, by omega⟩
  exact word_tab ⟨a, by omega⟩ ⟨b, by omega⟩ h
def rep (w : ByteArray) (n : Nat) : ByteArray := ⟨(Lib.repeatL w.data.toList n).toArray⟩
theorem rep_data (w : ByteArray) (n : Nat) : (rep w n).data.toList = Lib.repeatL w.data.toList n := rfl
theorem rep_size (w : ByteArray) (n : Nat) : (rep w n).size = n * w.size := by
  rw [Lib.size_eq, rep_data, Lib.repeatL_length, ← Lib.size_eq]
theorem ba_ext {a b : ByteArray} (h : a.data.toList = b.data.toList) : a = b := by
  cases a; cases b
  congr 1
  exact Array.ext' h
theorem rep_succ (w : ByteArray) (n : Nat) : rep w n ++ w = rep w (n + 1) := by
  apply ba_ext
  rw [rep_data, Lib.repeatL_add, Lib.repeatL_one, ByteArray.data_append, Array.toList_append]
  rfl
theorem bt_list (s : ByteArray) (j : Nat) : bt s (j : Int) = (((s.data.toList)[j]?.getD 0).toNat : Int) := by
  unfold bt
  have e : ((j : Int)).toNat = j := by omega
  have hs := Lib.size_eq s
  by_cases h : j < s.size
  · rw [dif_pos (by rw [e]; exact h)]
    have h' : j < s.data.toList.length := by rw [← hs]; exact h
    rw [List.getElem?_eq_getElem h']
    simp only [e, Option.getD_some]
    rfl
  · rw [dif_neg (by rw [e]; exact h)]
    have h' : s.data.toList.length ≤ j := by rw [← hs]; omega
    rw [List.getElem?_eq_none h']
    rfl
theorem repL_at (l : List UInt8) : ∀ (n m i : Nat), m < n → i < l.length → (Lib.repeatL l n)[m * l.length + i]? = l[i]? := by
  intro n
  induction n with
  | zero => intro m i h; omega
  | succ n ih =>
    intro m i h hi
    show (l ++ Lib.repeatL l n)[m * l.length + i]? = l[i]?
    cases m with
    | zero =>
      rw [Nat.zero_mul, Nat.zero_add, List.getElem?_append_left hi]
    | succ m =>
      have e : (m + 1) * l.length + i = l.length + (m * l.length + i) := by rw [Nat.succ_mul]; omega
      rw [e, List.getElem?_append_right (Nat.le_add_right _ _), Nat.add_sub_cancel_left]
      exact ih m i (by omega) hi
theorem rep_bt (w : ByteArray) {n m i : Nat} (hm : m < n) (hi : i < w.size) : bt (rep w n) ((m * w.size + i : Nat) : Int) = bt w (i : Int) := by
  rw [bt_list, bt_list, rep_data]
  have e := Lib.size_eq w
  rw [e] at hi ⊢
  rw [repL_at _ _ _ _ hm hi]
theorem bl_loop (bs : ByteArray) : ∀ (d i : Nat) (r : List UInt8), i + d = bs.size → (ByteArray.toList.loop bs i r).length = r.length + d := by
  intro d
  induction d with
  | zero =>
    intro i r h
    rw [ByteArray.toList.loop, if_neg (by omega)]
    simp
  | succ d ih =>
    intro i r h
    rw [ByteArray.toList.loop, if_pos (by omega), ih (i + 1) _ (by omega)]
    simp only [List.length_cons]
    omega
theorem toList_nil {s : ByteArray} : s.toList = ([] : List UInt8) ↔ s.size = 0 := by
  have h := bl_loop s s.size 0 [] (by omega)
  have e : ByteArray.toList.loop s 0 [] = s.toList := rfl
  rw [e] at h
  constructor
  · intro k
    rw [k] at h
    simp at h
    omega
  · intro k
    rw [k] at h
    exact List.eq_nil_of_length_eq_zero (by simpa using h)
theorem pathText_full (r u : List Int) (s p q : Int) : ∃ n : Nat, (n ≤ 24 ∧ (okP r u s p q → 1 ≤ n ∧ itr (pathL (N r) (N u) (slopeWordI p q)) n s.toNat = s.toNat) ∧ (¬ okP r u s p q → n = 0)) ∧ Ev (fun k => spec_PathRounds.f k r u s p q) (n : Int) ∧ Ev (fun k => spec_PathText.f k r u s p q) (rep (wordX p q) n) ∧ Ev (fun k => impl_PathText.f k r u s p q) (rep (wordX p q) n) := by
  obtain ⟨n, h0, h1, h2⟩ := pathRounds_full r u s p q
  obtain ⟨w1, w2, w3⟩ := wordX_ev p q
  have hn := h0.1
  refine ⟨n, h0, h1, ?_, ?_⟩
  · unfold spec_PathText.f
    refine Ev.bind w1 (Ev.bind h1 ?_)
    generalize wordX p q = w at w3
    have H : ∀ d m : Nat, m + d = n → Ev (fun k => spec_PathText.l0 k w (rep w m) (d : Int)) (rep w n) := by
      intro d
      induction d with
      | zero =>
        intro m h
        obtain rfl : m = n := by omega
        refine ev_succ ?_
        have c1 : ¬ (((0 : Nat) : Int) > 0) := by omega
        simp only [spec_PathText.l0, c1, if_false]
        exact Ev.now _
      | succ d ih =>
        intro m h
        refine ev_succ ?_
        have c1 : ((d + 1 : Nat) : Int) > 0 := by omega
        have c2 : wrap64 (((d + 1 : Nat) : Int) - 1) = (d : Int) := by rw [w64 (by omega) (by omega)]; omega
        have c3 : (rep w m).size + w.size ≤ 9223372036854775807 := by
          rw [rep_size]
          have : m * w.size ≤ 24 * 12 := Nat.mul_le_mul (by omega) w3
          omega
        simp only [spec_PathText.l0, c1, c2, c3, if_true, rep_succ]
        exact ih (m + 1) (by omega)
    exact H n 0 (by omega)
  · unfold impl_PathText.f
    refine Ev.bind w2 (Ev.bind h2 ?_)
    have c1 : (0 : Int) ≤ (n : Int) := by omega
    have c2 : (n : Int) ≤ 9223372036854775807 := by omega
    have c4 : ((n : Int)).toNat = n := by omega
    have c3 : (wordX p q).size * n ≤ 140737488355328 := by
      have : (wordX p q).size * n ≤ 12 * 24 := Nat.mul_le_mul w3 hn
      omega
    simp only [strings_Repeat.f, c1, c2, c3, c4, if_true, Option.bind_some]
    exact Ev.now _
theorem squares_both (r u : List Int) (s p q : Int) : ∃ (l : List Nat) (b : Bool), (l.length ≤ 288 ∧ (∀ x ∈ l, x < r.length) ∧ (b = true ↔ okP r u s p q)) ∧ (b = true → ∃ n : Nat, 1 ≤ n ∧ n ≤ 24 ∧ itr (pathL (N r) (N u) (slopeWordI p q)) n s.toNat = s.toNat ∧ Ev (fun k => spec_PathRounds.f k r u s p q) (n : Int) ∧ l = tab (n * (slopeWordI p q).size) (fun j => wk (N r) (N u) (rep (slopeWordI p q) n) j s.toNat)) ∧ (b = false → l = []) ∧ Ev (fun k => spec_PathSquares.f k r u s p q) (I l, b) ∧ Ev (fun k => impl_PathSquares.f k r u s p q) (I l, b) := by
  obtain ⟨n, ⟨hn, hy, hno⟩, e0, e1, e2⟩ := pathText_full r u s p q
  by_cases ho : okP r u s p q
  · obtain ⟨k1, k2⟩ := hy ho
    obtain ⟨o1, o2, o3, o4⟩ := ho
    have hsz := word_pos o2
    obtain ⟨w1, w2, w3⟩ := words_ev o2
    have ex : wordX p q = slopeWordI p q := if_pos o2
    rw [ex] at e1 e2
    have o1' := o1
    obtain ⟨r, u, rfl, rfl, hs⟩ := surf_nat o1
    obtain ⟨s, rfl⟩ : ∃ t : Nat, s = t := ⟨s.toNat, by omega⟩
    rw [N_I, N_I] at k2 ⊢
    have o4' : s < r.length := by rw [I_len] at o4; omega
    have es : ((s : Int)).toNat = s := by omega
    rw [es] at k2 ⊢
    have ok : okP (I r) (I u) (s : Int) p q := ⟨o1', o2, o3, o4⟩
    have L288 : n * (slopeWordI p q).size ≤ 24 * 12 := Nat.mul_le_mul hn w3
    have hpos : 1 ≤ n * (slopeWordI p q).size := Nat.mul_pos k1 hsz
    refine ⟨tab (n * (slopeWordI p q).size) (fun j => wk r u (rep (slopeWordI p q) n) j s), true, ⟨by rw [tab_len]; omega, ?_, ?_⟩, fun _ => ⟨n, k1, hn, k2, e0, rfl⟩, fun h => by simp at h, ?_, ?_⟩
    · intro x hx
      unfold tab at hx
      obtain ⟨j, _, rfl⟩ := List.mem_map.mp hx
      rw [I_len]
      exact wk_lt hs _ _ o4'
    · simp [ok]
    · unfold spec_PathSquares.f
      have hok : Ev (fun k => spec_l13Ok.f k (I r) (I u) (s : Int) p q) true := by
        unfold spec_l13Ok.f
        refine Ev.bind (spec_surf _ _) ?_
        have c1 : (s : Int) ≥ 0 := by omega
        have c2 : (s : Int) < (r.length : Int) := by omega
        simp only [o1', c1, c2, I_len', if_true]
        have := (slopes_ev p q).1
        rw [o2] at this
        exact Ev.bind this (Ev.now _)
      refine Ev.bind hok ?_
      simp only [if_true]
      refine Ev.bind w1 (Ev.bind e0 ?_)
      generalize slopeWordI p q = w at *
      have A : ∀ d m : Nat, m + d = n → Ev (fun k => spec_PathSquares.l0 k w (I (tab (m * w.size) (fun j => wk r u (rep w n) j s))) ((wk r u (rep w n) (m * w.size) s : Nat) : Int) (d : Int) (I r) (I u)) (I (tab (n * w.size) (fun j => wk r u (rep w n) j s)), true) := by
        intro d
        induction d with
        | zero =>
          intro m h
          obtain rfl : m = n := by omega
          refine ev_succ ?_
          have c1 : ¬ (((0 : Nat) : Int) > 0) := by omega
          simp only [spec_PathSquares.l0, c1, if_false]
          exact Ev.now _
        | succ d ih =>
          intro m h
          refine ev_succ ?_
          have c1 : ((d + 1 : Nat) : Int) > 0 := by omega
          simp only [spec_PathSquares.l0, c1, if_true]
          have hm : m * w.size ≤ 24 * 12 := Nat.mul_le_mul (by omega) w3
          have B : ∀ e i : Nat, i + e = w.size → Ev (fun k => spec_PathSquares.l1 k w (I (tab (m * w.size + i) (fun j => wk r u (rep w n) j s))) ((wk r u (rep w n) (m * w.size + i) s : Nat) : Int) ((d + 1 : Nat) : Int) (i : Int) (I r) (I u)) (I (tab (n * w.size) (fun j => wk r u (rep w n) j s)), true) := by
            intro e
            induction e with
            | zero =>
              intro i hi
              obtain rfl : i = w.size := by omega
              refine ev_succ ?_
              have c2 : ¬ ((w.size : Int) < (w.size : Int)) := by omega
              have c3 : wrap64 (((d + 1 : Nat) : Int) - 1) = (d : Int) := by rw [w64 (by omega) (by omega)]; omega
              have c4 : m * w.size + w.size = (m + 1) * w.size := by rw [Nat.succ_mul]
              simp only [spec_PathSquares.l1, c2, c3, c4, if_false]
              exact ih (m + 1) (by omega)
            | succ e ihe =>
              intro i hi
              refine ev_succ ?_
              have c2 : (i : Int) < (w.size : Int) := by omega
              have c4 : (0 : Int) ≤ (i : Int) := Int.natCast_nonneg i
              have c5 : (I (tab (m * w.size + i) (fun j => wk r u (rep w n) j s))).length < 17592186044416 := by
                rw [I_len, tab_len]
                have h12 : i ≤ 12 := by omega
                clear ihe ih c2 c4 hi
                exact Nat.lt_of_le_of_lt (Nat.add_le_add hm h12) (by decide)
              have c3 := w64s i (by omega)
              have hl := wk_lt hs (rep w n) (m * w.size + i) o4'
              have c6 : (0 : Int) ≤ ((wk r u (rep w n) (m * w.size + i) s : Nat) : Int) := by omega
              have c7 : ((wk r u (rep w n) (m * w.size + i) s : Nat) : Int) < (r.length : Int) := by omega
              have c8 : ((wk r u (rep w n) (m * w.size + i) s : Nat) : Int) < (u.length : Int) := by rw [hs.eq]; omega
              have e1 : tab (m * w.size + i) (fun j => wk r u (rep w n) j s) ++ [wk r u (rep w n) (m * w.size + i) s] = tab (m * w.size + (i + 1)) (fun j => wk r u (rep w n) j s) := tab_snoc _ _
              have hb := rep_bt w (n := n) (m := m) (i := i) (by omega) (by omega)
              have st : wk r u (rep w n) (m * w.size + (i + 1)) s = if bt w (i : Int) = 114 then g r (wk r u (rep w n) (m * w.size + i) s) else g u (wk r u (rep w n) (m * w.size + i) s) := by
                rw [← hb]
                rfl
              have key := ihe (i + 1) (by omega)
              rw [st] at key
              by_cases hc : bt w (i : Int) = 114
              · rw [if_pos hc] at key
                simp only [spec_PathSquares.l1, c2, c3, c4, c5, c6, c7, hc, I_len', rdI, I_snoc, e1, Option.bind_some, if_true]
                exact key
              · rw [if_neg hc] at key
                simp only [spec_PathSquares.l1, c2, c3, c4, c5, c6, c8, hc, I_len', rdI, I_snoc, e1, Option.bind_some, if_true, if_false]
                exact key
          exact B w.size 0 (by omega)
      have := A n 0 (by omega)
      simp only [Nat.zero_mul] at this
      exact this
    · unfold impl_PathSquares.f
      refine Ev.bind e2 ?_
      have hz := rep_size (slopeWordI p q) n
      have c0 : ¬ ((rep (slopeWordI p q) n).toList = ([] : List UInt8)) := by
        rw [toList_nil, hz]
        omega
      simp only [c0, if_false]
      generalize slopeWordI p q = w at *
      have A : ∀ d j : Nat, j + d = n * w.size → Ev (fun k => impl_PathSquares.l0 k ((wk r u (rep w n) j s : Nat) : Int) (rep w n) (I (tab j (fun j => wk r u (rep w n) j s))) (j : Int) (I r) (I u)) (I (tab (n * w.size) (fun j => wk r u (rep w n) j s)), true) := by
        intro d
        induction d with
        | zero =>
          intro j h
          obtain rfl : j = n * w.size := by omega
          refine ev_succ ?_
          have c1 : ¬ (((n * w.size : Nat) : Int) < ((rep w n).size : Int)) := by rw [hz]; omega
          simp only [impl_PathSquares.l0, c1, if_false]
          exact Ev.now _
        | succ d ih =>
          intro j h
          refine ev_succ ?_
          have c1 : (j : Int) < ((rep w n).size : Int) := by rw [hz]; omega
          have c2 : (I (tab j (fun j => wk r u (rep w n) j s))).length < 17592186044416 := by rw [I_len, tab_len]; omega
          have c4 : (0 : Int) ≤ (j : Int) := Int.natCast_nonneg j
          have c3 := w64s j (by omega)
          have hl := wk_lt hs (rep w n) j o4'
          have e1 : tab j (fun j => wk r u (rep w n) j s) ++ [wk r u (rep w n) j s] = tab (j + 1) (fun j => wk r u (rep w n) j s) := tab_snoc _ _
          simp only [impl_PathSquares.l0, c1, c2, c3, c4, if_true, I_snoc, e1]
          rw [step_ev hs hl]
          exact ih (j + 1) (by omega)
      exact A (n * w.size) 0 (by omega)
  · refine ⟨[], false, ⟨by simp, by simp, by simp [ho]⟩, fun h => by simp at h, fun _ => rfl, ?_, ?_⟩
    · unfold spec_PathSquares.f
      have hok : Ev (fun k => spec_l13Ok.f k r u s p q) false := by
        unfold spec_l13Ok.f
        refine Ev.bind (spec_surf _ _) ?_
        by_cases h1 : surfB r u = true
        · by_cases h3 : s ≥ 0
          · by_cases h4 : s < (r.length : Int)
            · have h2 : slopeOkI p q = false := Bool.eq_false_iff.mpr (fun h2 => ho ⟨h1, h2, h3, h4⟩)
              simp only [h1, h3, h4, if_true]
              have := (slopes_ev p q).1
              rw [h2] at this
              exact Ev.bind this (Ev.now _)
            · simp only [h1, h3, h4, if_true, if_false]
              exact Ev.now _
          · simp only [h1, h3, if_true, if_false]
            exact Ev.now _
        · simp only [h1, Bool.false_eq_true, if_false]
          exact Ev.now _
      refine Ev.bind hok ?_
      simp only [Bool.false_eq_true, if_false]
      exact Ev.now _
    · unfold impl_PathSquares.f
      refine Ev.bind e2 ?_
      have c0 : (rep (wordX p q) n).toList = ([] : List UInt8) := by
        rw [toList_nil, rep_size, hno ho, Nat.zero_mul]
      simp only [c0, if_true]
      exact Ev.now _
end Go.Proofs.Ytbdnellgioimbaa.M
end
section
/- Marks that laws lay and look for. No conditions. -/
namespace Go.Proofs.Ytbdnellgioimbaa.M
set_option linter.unusedVariables false
set_option linter.unusedSimpArgs false
open Go.RowKit Go.Proofs.YtbdnellgioimbaaW.PrintWords Go.Proofs.YtbdnellgioimbaaW.PrintLast Go.Proofs.YtbdnellgioimbaaW.PrintMore Go.Proofs.Ytbdnellgioimbaa.A
def markL (n : Nat) (a : Int) : List Int := (List.range n).map (fun (i : Nat) => a + (i : Int))
theorem markL_len (n : Nat) (a : Int) : (markL n a).length = n := by simp [markL]
theorem rd_markL {n i : Nat} {a : Int} (h : i < n) : rd (markL n a) (i : Int) = a + (i : Int) := by
  rw [rd_get _ i (by rw [markL_len]; exact h)]
  simp [markL]
theorem w64a (a : Int) (i : Nat) (h0 : 0 ≤ a) (h : a + (i : Int) ≤ 9000000000000000000) : wrap64 (a + (i : Int) + 1) = a + ((i + 1 : Nat) : Int) := by rw [w64 (by omega) (by omega)]; omega
theorem mark_ev (l : List Int) (a : Int) (h0 : 0 ≤ a) (h : a + (l.length : Int) ≤ 9000000000000000000) : Ev (fun k => laws_markIntS.f k l a) (a + (l.length : Int), markL l.length a) := by
  unfold laws_markIntS.f
  have H : ∀ (d i : Nat) (c : List Int), i + d = l.length → c.length = l.length → (∀ j : Nat, j < i → rd c (j : Int) = a + (j : Int)) → Ev (fun k => laws_markIntS.l0 k c (a + (i : Int)) (i : Int)) (a + (l.length : Int), markL l.length a) := by
    intro d
    induction d with
    | zero =>
      intro i c hi hc hx
      refine ev_succ ?_
      have h1 : ¬ ((i : Int) < (c.length : Int)) := by omega
      have e : c = markL l.length a := ext_rd (by rw [markL_len]; exact hc) (fun j hj => by rw [hx j (by omega), rd_markL (by omega)])
      have e2 : i = l.length := by omega
      simp only [laws_markIntS.l0, h1, if_false]
      rw [e, e2]
      exact Ev.now _
    | succ d ih =>
      intro i c hi hc hx
      refine ev_succ ?_
      have h1 : (i : Int) < (c.length : Int) := by omega
      have h2 : (0 : Int) ≤ (i : Int) := by omega
      have h3 := w64s i (by omega)
      have h4 := w64a a i h0 (by omega)
      simp only [laws_markIntS.l0, h1, h2, h3, h4, if_true, Int.toNat_natCast]
      refine ih (i + 1) _ (by omega) (by rw [List.length_set]; exact hc) (fun j hj => ?_)
      rw [rd_set (by omega)]
      by_cases e : i = j
      · subst e
        simp
      · rw [if_neg e]
        exact hx j (by omega)
  have := H l.length 0 l (by omega) rfl (fun j hj => by omega)
  simpa using this
theorem held_ev (n : Nat) (a : Int) (h0 : 0 ≤ a) (h : a + (n : Int) ≤ 9000000000000000000) : Ev (fun k => laws_heldIntS.f k (markL n a) a) (a + (n : Int)) := by
  unfold laws_heldIntS.f
  have H : ∀ d i : Nat, i + d = n → Ev (fun k => laws_heldIntS.l0 k (markL n a) (a + (i : Int)) (i : Int)) (a + (n : Int)) := by
    intro d
    induction d with
    | zero =>
      intro i hi
      obtain rfl : i = n := by omega
      refine ev_succ ?_
      have h1 : ¬ ((i : Int) < ((markL i a).length : Int)) := by rw [markL_len]; omega
      simp only [laws_heldIntS.l0, h1, if_false]
      exact Ev.now _
    | succ d ih =>
      intro i hi
      refine ev_succ ?_
      have h1 : (i : Int) < ((markL n a).length : Int) := by rw [markL_len]; omega
      have h2 : (0 : Int) ≤ (i : Int) := by omega
      have h3 := w64s i (by omega)
      have h4 := w64a a i h0 (by omega)
      have h5 := rd_markL (n := n) (i := i) (a := a) (by omega)
      simp only [laws_heldIntS.l0, h1, h2, h3, h4, h5, if_true]
      exact ih (i + 1) (by omega)
  have := H n 0 (by omega)
  simpa using this
theorem markSurf_ev (r u : List Int) (h : r.length + u.length ≤ 1048576) : Ev (fun k => laws_markSurface.f k r u 1) (1 + (r.length : Int) + (u.length : Int), markL r.length 1, markL u.length (1 + (r.length : Int))) := by
  unfold laws_markSurface.f
  refine Ev.bind (mark_ev r 1 (by omega) (by omega)) ?_
  refine Ev.bind (mark_ev u (1 + (r.length : Int)) (by omega) (by omega)) ?_
  exact Ev.now _
end Go.Proofs.Ytbdnellgioimbaa.M
end
section
/- The law of visited squares answers true. No conditions. -/
namespace Go.Proofs.Ytbdnellgioimbaa.Pure
set_option linter.unusedVariables false
set_option linter.unusedSimpArgs false
open Go.RowKit Go.Proofs.YtbdnellgioimbaaW.PrintWords Go.Proofs.YtbdnellgioimbaaW.PrintLast Go.Proofs.YtbdnellgioimbaaW.PrintMore Go.Proofs.Ytbdnellgioimbaa.A Go.Proofs.Ytbdnellgioimbaa.M
theorem visits_both (r u : List Int) (s p q : Int) : ∃ w : List Int, w.length ≤ 24 ∧ Ev (fun k => spec_Visits.f k r u s p q) w ∧ Ev (fun k => impl_Visits.f k r u s p q) w := by
  obtain ⟨l, b, ⟨hl, hlt, hb⟩, _, _, e1, e2⟩ := squares_both r u s p q
  unfold spec_Visits.f impl_Visits.f
  by_cases h : b = true
  · have ok := hb.mp h
    subst h
    obtain ⟨o1, o2, o3, o4⟩ := ok
    have o1' := o1
    obtain ⟨r, u, rfl, rfl, hs⟩ := surf_nat o1
    have hle := hs.le
    rw [I_len] at hlt
    have H : ∀ d i : Nat, i + d = l.length → ∀ acc : List Int, acc.length = r.length → ∃ w : List Int, w.length = r.length ∧ Ev (fun k => spec_Visits.l0 k acc (I l) (l.length : Int) (i : Int)) w ∧ Ev (fun k => impl_Visits.l0 k acc (I l) (l.length : Int) (i : Int)) w := by
      intro d
      induction d with
      | zero =>
        intro i hi acc ha
        obtain rfl : i = l.length := by omega
        have c1 : ¬ ((l.length : Int) < (l.length : Int)) := by omega
        refine ⟨acc, ha, ev_succ ?_, ev_succ ?_⟩
        · simp only [spec_Visits.l0, c1, if_false]
          exact Ev.now _
        · simp only [impl_Visits.l0, c1, if_false]
          exact Ev.now _
      | succ d ih =>
        intro i hi acc ha
        have hx : g l i < r.length := by
          refine hlt _ ?_
          unfold g
          rw [List.getD_eq_getElem?_getD, List.getElem?_eq_getElem (by omega)]
          exact List.getElem_mem _
        obtain ⟨w, hw, i1, i2⟩ := ih (i + 1) (by omega) (acc.set (((g l i : Nat) : Int)).toNat (wrap64 (rd acc ((g l i : Nat) : Int) + 1))) (by rw [List.length_set]; exact ha)
        have c1 : (i : Int) < (l.length : Int) := by omega
        have c2 : (0 : Int) ≤ (i : Int) := Int.natCast_nonneg i
        have c3 : (0 : Int) ≤ ((g l i : Nat) : Int) := Int.natCast_nonneg _
        have c4 : ((g l i : Nat) : Int) < (acc.length : Int) := by rw [ha]; omega
        have c5 := w64s i (by omega)
        refine ⟨w, hw, ev_succ ?_, ev_succ ?_⟩
        · simp only [spec_Visits.l0, c1, c2, c3, c4, c5, rdI, I_len', if_true]
          exact i1
        · simp only [impl_Visits.l0, c1, c2, c3, c4, c5, rdI, I_len', if_true]
          exact i2
    obtain ⟨w, hw, i1, i2⟩ := H l.length 0 (by omega) (List.replicate r.length 0) (List.length_replicate ..)
    have z : ((r.length : Int)).toNat = r.length := by omega
    have z1 : (0 : Int) ≤ (r.length : Int) := Int.natCast_nonneg _
    have z2 : r.length ≤ 35184372088832 := by omega
    refine ⟨w, by omega, Ev.bind e1 ?_, Ev.bind e2 ?_⟩
    · simp only [I_len', z, z1, z2, if_true]
      exact i1
    · simp only [if_true]
      refine Ev.bind (a := (r.length : Int)) ?_ ?_
      · unfold impl_CountSquares.f
        refine Ev.bind (impl_surf _ _) ?_
        simp only [o1', if_true, I_len']
        exact Ev.now _
      · simp only [I_len', z, z1, z2, if_true]
        exact i2
  · have h' := Bool.eq_false_iff.mpr h
    subst h'
    refine ⟨[], by simp, Ev.bind e1 ?_, Ev.bind e2 ?_⟩
    · simp only [Bool.false_eq_true, if_false]
      exact Ev.now _
    · simp only [Bool.false_eq_true, if_false]
      exact Ev.now _
theorem FnExactVisits (r u : List Int) (s p q : Int) (hr : r.length ≤ maxLen) (_ : ∀ x ∈ r, (Lit.int .i64 x).wf = true) (hu : u.length ≤ maxLen) (_ : ∀ x ∈ u, (Lit.int .i64 x).wf = true) (_ : (Lit.int .i64 s).wf = true) (_ : (Lit.int .i64 p).wf = true) (_ : (Lit.int .i64 q).wf = true) : ∃ k, laws_FnExactVisits.F k r u s p q := by
  unfold maxLen at hr hu
  unfold laws_FnExactVisits.F
  by_cases h2 : r.length + u.length ≤ 1048576
  · obtain ⟨w, hl', ⟨K1, e1⟩, ⟨K2, e2⟩⟩ := visits_both r u s p q
    obtain ⟨K3, e3⟩ := toSurf_ev r u (by omega) (by omega)
    obtain ⟨K4, e4⟩ := eqSurf_same r u (by omega) (by omega)
    obtain ⟨K5, e5⟩ := eqInts_same w (by omega)
    obtain ⟨K6, e6⟩ := markSurf_ev r u h2
    obtain ⟨K7, e7⟩ := mark_ev w 1 (by omega) (by omega)
    obtain ⟨K8, e8⟩ := held_ev w.length 1 (by omega) (by omega)
    exact ⟨K1 + K2 + K3 + K4 + K5 + K6 + K7 + K8, _, sz_small h2, .inr ⟨by omega, w, _, _, _, _, _, e3 _ (by omega), e4 _ (by omega), e1 _ (by omega), e2 _ (by omega), e5 _ (by omega), e6 _ (by omega), decide_eq_false (by omega), e7 _ (by omega), e8 _ (by omega), decide_eq_false (by omega)⟩⟩
  · exact ⟨0, _, sz_big (by omega) (by omega) h2, .inl (by omega)⟩
end Go.Proofs.Ytbdnellgioimbaa.Pure
end
