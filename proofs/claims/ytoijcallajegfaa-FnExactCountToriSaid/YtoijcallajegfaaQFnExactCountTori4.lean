/- Lemmas for the row FnExactCountTori: the program's functions told as plain functions, and plain mathematics. No conditions. -/
import Derived.Test.YtoijcallajegfaaQFnExactCountTori3
section
namespace Go.Proofs.Ytoijcallajegfaa.A
open Go.RowKit Go.Proofs.YtoijcallajegfaaW.PrintWords Go.Proofs.YtoijcallajegfaaW.PrintLast Go.Proofs.YtoijcallajegfaaW.PrintMore
attribute [local go_sem] max2_int min2_int max_two min_two max_three min_three max_four min_four
set_option linter.unusedVariables false
set_option linter.unusedSimpArgs false
mutual
def impl_CountTori.j0 : Nat → Int → Bool → Option (Int)
  | 0, _, _ => none
  | k + 1, x0, x11 => if x11 = true then (some (-1)) else ((impl_SurfacesWith.f k x0).bind fun t355 => (impl_CountTori.l0 k 0 t355 (t355.length : Int) 0))
def impl_CountTori.l0 : Nat → Int → List (S33) → Int → Int → Option (Int)
  | 0, _, _, _, _ => none
  | k + 1, x3, x13, x14, x15 => if x15 < x14 then (if 0 ≤ x15 then (if x15 < (x13.length : Int) then ((impl_GenusOf.f k ((rd_T33 x13 x15).f0) ((rd_T33 x13 x15).f1)).bind fun t360 => (if t360 = 1 then (impl_CountTori.l0 k (wrap64 (x3 + 1)) x13 x14 (wrap64 (x15 + 1))) else (impl_CountTori.l0 k x3 x13 x14 (wrap64 (x15 + 1))))) else (none)) else (none)) else (some x3)
end
def impl_CountTori.f (k : Nat) (a0 : Int) : Option (Int) := if a0 < 1 then (impl_CountTori.j0 k a0 true) else (impl_CountTori.j0 k a0 (decide (a0 > 4)))
theorem impl_CountTori.mono_l : ∀ k, (∀ y0 y1, LeO (impl_CountTori.j0 k y0 y1) (impl_CountTori.j0 (k + 1) y0 y1)) ∧ (∀ y0 y1 y2 y3, LeO (impl_CountTori.l0 k y0 y1 y2 y3) (impl_CountTori.l0 (k + 1) y0 y1 y2 y3))
  | 0 => ⟨fun _ _ r h => by simp [impl_CountTori.j0] at h, fun _ _ _ _ r h => by simp [impl_CountTori.l0] at h⟩
  | k + 1 => by
    obtain ⟨ih0, ih1⟩ := impl_CountTori.mono_l k
    refine ⟨?_, ?_⟩
    · intro y0 y1
      unfold impl_CountTori.j0
      repeat' first|exact ih0 _ _|exact ih1 _ _ _ _|exact impl_GenusOf.mono _ _ _|exact impl_SurfacesWith.mono _ _|exact lo_|refine LeO.ite ?_ ?_|refine LeO.bind ?_ (fun _ => ?_)
    · intro y0 y1 y2 y3
      unfold impl_CountTori.l0
      repeat' first|exact ih0 _ _|exact ih1 _ _ _ _|exact impl_GenusOf.mono _ _ _|exact impl_SurfacesWith.mono _ _|exact lo_|refine LeO.ite ?_ ?_|refine LeO.bind ?_ (fun _ => ?_)
theorem impl_CountTori.mono : ∀ a0 k, LeO (impl_CountTori.f k a0) (impl_CountTori.f (k + 1) a0) := by
  intro a0 k
  obtain ⟨ih0, ih1⟩ := impl_CountTori.mono_l k
  unfold impl_CountTori.f
  repeat' first|exact ih0 _ _|exact ih1 _ _ _ _|exact impl_GenusOf.mono _ _ _|exact impl_SurfacesWith.mono _ _|exact lo_|refine LeO.ite ?_ ?_|refine LeO.bind ?_ (fun _ => ?_)
set_option maxHeartbeats 8000000 in
set_option maxRecDepth 100000 in
theorem impl_CountTori.calls (k : Nat) (a0 : Int) (r : Int) (w : World) (h : impl_CountTori.f k a0 = some r) :
    Calls Try.prog 13 #[.int .i64 a0] w fun e w' => e = .returned (.int .i64 r) ∧ Below w.heap.size w w' := by
  have hu33 := Try.underlying33
  have HB := Aside0.mk (Below.refl w.heap.size w)
  have H := h
  unfold impl_CountTori.f at H
  clear h
  have HC2 := Aside0.mk H
  clear H
  go_enter Try.func13, Try.ntmps13
  go_upto_region 1 with (fail)
  go_cut [11] (fun v11 wc => ∃ (kq : Nat) (x11_1 : Bool), v11 = .bool x11_1 ∧ Aside0 (impl_CountTori.j0 kq a0 x11_1 = some r) ∧ Aside0 (kq ≤ k) ∧ Aside0 (Below w.heap.size w wc))
  case first =>
    have H := HC2.out
    clear HC2
    by_cases c3 : a0 < 1
    · rw [if_pos c3] at H
      have c3b0 := decide_eq_true c3
      clear c3
      (first | rw [c3b0] | (simp only [i64_w, i32_w]; rw [c3b0]) | skip)
      have H' := Aside0.mk H
      clear H
      go_wp2
      go_meet
      case rel => exact ⟨_, (true), qc_, H', ⟨qd_⟩, ⟨hB_⟩⟩
    · rw [if_neg c3] at H
      have c3b0 := decide_eq_false c3
      clear c3
      (first | rw [c3b0] | (simp only [i64_w, i32_w]; rw [c3b0]) | skip)
      have H' := Aside0.mk H
      clear H
      go_wp2
      go_meet
      case rel => exact ⟨_, (decide (a0 > 4)), qc_, H', ⟨qd_⟩, ⟨hB_⟩⟩
  case rest =>
    clear HC2
    obtain ⟨kq, x11_1, rfl, HA, HJ1, HB⟩ := hcut
    cases kq with
    | zero => exact absurd HA.out (by simp [impl_CountTori.j0])
    | succ kj1 =>
      have H := HA.out
      clear HA
      simp only [impl_CountTori.j0] at H
      by_cases c4 : x11_1 = true
      · subst c4
        rw [if_pos rfl] at H
        obtain rfl := Option.some.inj H
        go_wp2
        go_ret
        exact ⟨qb_, hB_⟩
      · replace c4 := Bool.eq_false_iff.mpr c4
        subst c4
        have H1 : ((impl_SurfacesWith.f kj1 a0).bind fun t355 => (impl_CountTori.l0 kj1 0 t355 (t355.length : Int) 0)) = some r := by rw [if_neg (show ¬ (false = true) by decide)] at H; exact H
        clear H
        have H := H1
        clear H1
        obtain ⟨t355, A5, H⟩ := bi_ H
        have H' := Aside0.mk H
        clear H
        go_wp2_with (first | ((with_reducible refine gate_callee (f := 12) rfl ?_); refine gL_ (some 13) Try.func12 #[.int .i64 a0] rfl qa_ ?_; (with_reducible refine (impl_SurfacesWith.calls kj1 a0 t355 _ A5.out).mono ?_); rintro e w6 ⟨v356, rfl, ho0, hb⟩; refine ⟨_, rfl, ?_⟩; have HO357 := Aside0.mk (Kd.N_lower (Kd.N_mono (ok' := fun k_ => True) ho0 (fun k_ hk_ => trivial)) (below_size hB_)); replace HB := b1_ hb; clear hb ho0; obtain ⟨Ao7, co7, eo7⟩ := Kd.N_slice HO357.out; subst eo7))
        go_loopg [3, 15] kj1 (fun kq v3 v15 w' => ∃ (x3_2 : Int) (x15_2 : Int), v3 = .int .i64 x3_2 ∧ v15 = .int .i64 x15_2 ∧ Aside0 (impl_CountTori.l0 kq x3_2 t355 (t355.length : Int) x15_2 = some r) ∧ Aside0 (kq ≤ kj1) ∧ Aside0 (Kd.N k33 33 w' w.heap.size (fun _ => True) (.slice Ao7 t355.length co7) t355) ∧ Aside0 (Below w.heap.size w w'))
        case atStart => exact ⟨(0), (0), qc_, qc_, H', ⟨Nat.le_refl _⟩, ⟨by (with_reducible repeat (first | apply Kd.N_alloc | apply Kd.N_drewN | apply Kd.N_drew)); exact HO357.out⟩, ⟨hB_⟩⟩
        case round =>
          clear H'
          obtain ⟨x3_2, x15_2, rfl, rfl, HA, HK2, HO_13, HB⟩ := hrel
          cases gk with
          | zero => exact absurd HA.out (by simp [impl_CountTori.l0])
          | succ k2 =>
            have H := HA.out
            clear HA
            simp only [impl_CountTori.l0] at H
            by_cases c8 : x15_2 < (t355.length : Int)
            · rw [if_pos c8] at H
              have c8b0 := decide_eq_true c8
              clear c8
              have c9 := cp_ H
              replace H := ca_ H
              have c9b0 := decide_eq_true c9
              clear c9
              have c10 := cp_ H
              replace H := ca_ H
              have c10b0 := decide_eq_true c10
              clear c10
              obtain ⟨t360, A11, H⟩ := bi_ H
              by_cases c12 : t360 = 1
              · rw [if_pos c12] at H
                have c12b0 : (t360 == 1) = true := beq_iff_eq.mpr c12
                have c12b1 : (t360 != 1) = false := bne_eq_false_iff_eq.mpr c12
                clear c12
                have H' := Aside0.mk H
                clear H
                have p358 : 0 ≤ (x15_2 : Int) := of_decide_eq_true qe_
                have q358 : x15_2 < (t355.length : Int) := of_decide_eq_true qe_
                obtain ⟨ad358, A358_0, c358_0, A358_1, c358_1, e358, hx358_0, hx358_1, hl358_0, hi358_0, hl358_1, hi358_1⟩ := at_T33 (Kd.N_reads' HO_13.out).2.2 x15_2 p358 q358
                cases e358
                obtain ⟨ce358, hce358, hMe358, hcc358⟩ := Kd.N_get HO_13.out z33 x15_2 p358 (by first | exact q358 | exact of_decide_eq_true qe_ | (have e_ := (Kd.N_reads' HO_13.out).1; omega))
                obtain ⟨ua358_0, uc358_0, ua358_1, uc358_1, rfl, ul358_0, ge358_0, ul358_1, ge358_1⟩ := k33_openF hMe358
                have hv358_0 := hcc358 0 _ rfl
                rw [Nat.add_zero] at hv358_0
                replace hv358_0 := Option.some.inj (hv358_0.symm.trans hx358_0)
                injection hv358_0 with hva_ hvn_ hvc_
                rw [hva_] at ge358_0
                rw [hvc_] at ul358_0
                have HL358_0 := Aside0.mk (show Kd.V (Kd.int .i64) 3 _ w.heap.size _ _ ((rd_T33 t355 x15_2).f0) from Kd.V_mk ul358_0 ge358_0)
                clear hva_ hvn_ hvc_ ge358_0 ul358_0
                have hv358_1 := hcc358 1 _ rfl
                rw [add_field _ _ 1 (by omega)] at hv358_1
                replace hv358_1 := Option.some.inj (hv358_1.symm.trans hx358_1)
                injection hv358_1 with hva_ hvn_ hvc_
                rw [hva_] at ge358_1
                rw [hvc_] at ul358_1
                have HL358_1 := Aside0.mk (show Kd.V (Kd.int .i64) 3 _ w.heap.size _ _ ((rd_T33 t355 x15_2).f1) from Kd.V_mk ul358_1 ge358_1)
                clear hva_ hvn_ hvc_ ge358_1 ul358_1
                clear hcc358 hce358
                have HR358_0 := Aside0.mk hi358_0
                have HC358_0 := Aside0.mk hl358_0
                clear hi358_0 hl358_0
                have HR358_1 := Aside0.mk hi358_1
                have HC358_1 := Aside0.mk hl358_1
                clear hi358_1 hl358_1
                replace p358 := eq_true p358
                replace q358 := eq_true q358
                go_wp2_with (first | ((with_reducible refine gate_dst (N := 5) rfl ?_); refine bx_ 5 #[.slice none 0 0, .slice none 0 0] 33 ?_; intro gb359 hg w13 hbox hb; replace HO_13 := Aside0.mk (Kd.N_below (Kd.N_elderB (by (with_reducible repeat (first | apply Kd.N_alloc | apply Kd.N_drewN | apply Kd.N_drew)); exact HO_13.out) gb359 (Nat.le_of_eq hg.symm)) hb); replace HL358_0 := Aside0.mk (Kd.V_below (Kd.V_elderB (by (with_reducible repeat (first | apply Kd.V_alloc | apply Kd.V_drewN | apply Kd.V_drew)); exact HL358_0.out) gb359 (Nat.le_of_eq hg.symm)) hb); replace HL358_1 := Aside0.mk (Kd.V_below (Kd.V_elderB (by (with_reducible repeat (first | apply Kd.V_alloc | apply Kd.V_drewN | apply Kd.V_drew)); exact HL358_1.out) gb359 (Nat.le_of_eq hg.symm)) hb); replace HR358_0 := Aside0.mk (Kd.C_below (by repeat (first | (with_reducible exact HR358_0.out) | (with_reducible refine Kd.C_alloc ?_ _) | (with_reducible refine Kd.C_drewN ?_ _) | (with_reducible refine Kd.C_drew ?_) | exact HR358_0.out)) hb); replace HR358_1 := Aside0.mk (Kd.C_below (by repeat (first | (with_reducible exact HR358_1.out) | (with_reducible refine Kd.C_alloc ?_ _) | (with_reducible refine Kd.C_drewN ?_ _) | (with_reducible refine Kd.C_drew ?_) | exact HR358_1.out)) hb); have BK359 := Aside0.mk hbox; have GW359 := gw_ w hg; have GE359 := GW359; replace HB := b1_ hb; clear hb hbox hg; obtain ⟨hcz14_0, hcz14_1, hfz14_0, hfz14_1⟩ := c2_ BK359) | ((with_reducible refine gate_callee (f := 27) rfl ?_); refine gL_ (some 20) Try.func27 #[.agg #[.slice A358_0 ((rd_T33 t355 x15_2).f0).length c358_0, .slice A358_1 ((rd_T33 t355 x15_2).f1).length c358_1]] rfl qa_ ?_; (with_reducible refine (impl_GenusOf.calls k2 _ _ ((rd_T33 t355 x15_2).f0) _ _ ((rd_T33 t355 x15_2).f1) t360 _ ?side1 ?side2 ?side3 ?side4 A11.out).mono ?_); (case side1 => repeat (first | exact ((Kd.V_reads' (by (with_reducible repeat (first | apply Kd.V_alloc | apply Kd.V_drewN | apply Kd.V_drew)); exact (Kd.V_mono (Kd.V_far (p := ⟨gb359, 1, none⟩) (Kd.V_far (p := ⟨gb359, 0, none⟩) (Kd.V_mono HL358_0.out (fun k_ hk => (⟨hk, hk.2⟩ : _ ∧ k_ ≠ gb359))) (fun _ hk => hk.2) (.slice A358_0 ((rd_T33 t355 x15_2).f0).length c358_0)) (fun _ hk => hk.2) (.slice A358_1 ((rd_T33 t355 x15_2).f1).length c358_1)) (fun _ h_ => h_.1)))).2.2) | (with_reducible refine Kd.C_alloc ?_ _) | (with_reducible refine Kd.C_drewN ?_ _) | (with_reducible refine Kd.C_drew ?_))); (case side2 => exact HC358_0.out); (case side3 => repeat (first | exact ((Kd.V_reads' (by (with_reducible repeat (first | apply Kd.V_alloc | apply Kd.V_drewN | apply Kd.V_drew)); exact (Kd.V_mono (Kd.V_far (p := ⟨gb359, 1, none⟩) (Kd.V_far (p := ⟨gb359, 0, none⟩) (Kd.V_mono HL358_1.out (fun k_ hk => (⟨hk, hk.2⟩ : _ ∧ k_ ≠ gb359))) (fun _ hk => hk.2) (.slice A358_0 ((rd_T33 t355 x15_2).f0).length c358_0)) (fun _ hk => hk.2) (.slice A358_1 ((rd_T33 t355 x15_2).f1).length c358_1)) (fun _ h_ => h_.1)))).2.2) | (with_reducible refine Kd.C_alloc ?_ _) | (with_reducible refine Kd.C_drewN ?_ _) | (with_reducible refine Kd.C_drew ?_))); (case side4 => exact HC358_1.out); rintro e w15 ⟨rfl, hb⟩; refine ⟨_, rfl, ?_⟩; replace HO_13 := Aside0.mk (Kd.N_below (by (with_reducible repeat (first | apply Kd.N_alloc | apply Kd.N_drewN | apply Kd.N_drew)); exact (Kd.N_mono (Kd.N_far (p := ⟨gb359, 1, none⟩) (Kd.N_far (p := ⟨gb359, 0, none⟩) (Kd.N_mono HO_13.out (fun k_ hk => (⟨hk, hk.2⟩ : _ ∧ k_ ≠ gb359))) (fun _ hk => hk.2) (.slice A358_0 ((rd_T33 t355 x15_2).f0).length c358_0)) (fun _ hk => hk.2) (.slice A358_1 ((rd_T33 t355 x15_2).f1).length c358_1)) (fun _ h_ => h_.1))) hb); replace HR358_0 := Aside0.mk (Kd.C_below ((Kd.V_reads' (by (with_reducible repeat (first | apply Kd.V_alloc | apply Kd.V_drewN | apply Kd.V_drew)); exact (Kd.V_mono (Kd.V_far (p := ⟨gb359, 1, none⟩) (Kd.V_far (p := ⟨gb359, 0, none⟩) (Kd.V_mono HL358_0.out (fun k_ hk => (⟨hk, hk.2⟩ : _ ∧ k_ ≠ gb359))) (fun _ hk => hk.2) (.slice A358_0 ((rd_T33 t355 x15_2).f0).length c358_0)) (fun _ hk => hk.2) (.slice A358_1 ((rd_T33 t355 x15_2).f1).length c358_1)) (fun _ h_ => h_.1)))).2.2) hb); replace HL358_0 := Aside0.mk (Kd.V_below (by (with_reducible repeat (first | apply Kd.V_alloc | apply Kd.V_drewN | apply Kd.V_drew)); exact (Kd.V_mono (Kd.V_far (p := ⟨gb359, 1, none⟩) (Kd.V_far (p := ⟨gb359, 0, none⟩) (Kd.V_mono HL358_0.out (fun k_ hk => (⟨hk, hk.2⟩ : _ ∧ k_ ≠ gb359))) (fun _ hk => hk.2) (.slice A358_0 ((rd_T33 t355 x15_2).f0).length c358_0)) (fun _ hk => hk.2) (.slice A358_1 ((rd_T33 t355 x15_2).f1).length c358_1)) (fun _ h_ => h_.1))) hb); replace HR358_1 := Aside0.mk (Kd.C_below ((Kd.V_reads' (by (with_reducible repeat (first | apply Kd.V_alloc | apply Kd.V_drewN | apply Kd.V_drew)); exact (Kd.V_mono (Kd.V_far (p := ⟨gb359, 1, none⟩) (Kd.V_far (p := ⟨gb359, 0, none⟩) (Kd.V_mono HL358_1.out (fun k_ hk => (⟨hk, hk.2⟩ : _ ∧ k_ ≠ gb359))) (fun _ hk => hk.2) (.slice A358_0 ((rd_T33 t355 x15_2).f0).length c358_0)) (fun _ hk => hk.2) (.slice A358_1 ((rd_T33 t355 x15_2).f1).length c358_1)) (fun _ h_ => h_.1)))).2.2) hb); replace HL358_1 := Aside0.mk (Kd.V_below (by (with_reducible repeat (first | apply Kd.V_alloc | apply Kd.V_drewN | apply Kd.V_drew)); exact (Kd.V_mono (Kd.V_far (p := ⟨gb359, 1, none⟩) (Kd.V_far (p := ⟨gb359, 0, none⟩) (Kd.V_mono HL358_1.out (fun k_ hk => (⟨hk, hk.2⟩ : _ ∧ k_ ≠ gb359))) (fun _ hk => hk.2) (.slice A358_0 ((rd_T33 t355 x15_2).f0).length c358_0)) (fun _ hk => hk.2) (.slice A358_1 ((rd_T33 t355 x15_2).f1).length c358_1)) (fun _ h_ => h_.1))) hb); replace BK359 := Aside0.mk (blk_below (g := gb359) (o := .cells #[.slice A358_0 ((rd_T33 t355 x15_2).f0).length c358_0, .slice A358_1 ((rd_T33 t355 x15_2).f1).length c358_1] 33 (0, 0)) qp_ hb); replace HB := b1_ hb; clear hb))
                go_roundg k2
                case measure => have := HJ1.out; have := HK2.out; omega
                case rel => exact ⟨(wrap64 (x3_2 + 1)), (wrap64 (x15_2 + 1)), qc_, qc_, H', ⟨by have := HJ1.out; have := HK2.out; omega⟩, ⟨by (with_reducible repeat (first | apply Kd.N_alloc | apply Kd.N_drewN | apply Kd.N_drew)); exact Kd.N_mono HO_13.out (fun _ hk => trivial)⟩, ⟨hB_⟩⟩
              · rw [if_neg c12] at H
                have c12b0 : (t360 == 1) = false := beq_eq_false_iff_ne.mpr c12
                have c12b1 : (t360 != 1) = true := bne_iff_ne.mpr c12
                have H' := Aside0.mk H
                clear H
                have p358 : 0 ≤ (x15_2 : Int) := of_decide_eq_true qe_
                have q358 : x15_2 < (t355.length : Int) := of_decide_eq_true qe_
                obtain ⟨ad358, A358_0, c358_0, A358_1, c358_1, e358, hx358_0, hx358_1, hl358_0, hi358_0, hl358_1, hi358_1⟩ := at_T33 (Kd.N_reads' HO_13.out).2.2 x15_2 p358 q358
                cases e358
                obtain ⟨ce358, hce358, hMe358, hcc358⟩ := Kd.N_get HO_13.out z33 x15_2 p358 (by first | exact q358 | exact of_decide_eq_true qe_ | (have e_ := (Kd.N_reads' HO_13.out).1; omega))
                obtain ⟨ua358_0, uc358_0, ua358_1, uc358_1, rfl, ul358_0, ge358_0, ul358_1, ge358_1⟩ := k33_openF hMe358
                have hv358_0 := hcc358 0 _ rfl
                rw [Nat.add_zero] at hv358_0
                replace hv358_0 := Option.some.inj (hv358_0.symm.trans hx358_0)
                injection hv358_0 with hva_ hvn_ hvc_
                rw [hva_] at ge358_0
                rw [hvc_] at ul358_0
                have HL358_0 := Aside0.mk (show Kd.V (Kd.int .i64) 3 _ w.heap.size _ _ ((rd_T33 t355 x15_2).f0) from Kd.V_mk ul358_0 ge358_0)
                clear hva_ hvn_ hvc_ ge358_0 ul358_0
                have hv358_1 := hcc358 1 _ rfl
                rw [add_field _ _ 1 (by omega)] at hv358_1
                replace hv358_1 := Option.some.inj (hv358_1.symm.trans hx358_1)
                injection hv358_1 with hva_ hvn_ hvc_
                rw [hva_] at ge358_1
                rw [hvc_] at ul358_1
                have HL358_1 := Aside0.mk (show Kd.V (Kd.int .i64) 3 _ w.heap.size _ _ ((rd_T33 t355 x15_2).f1) from Kd.V_mk ul358_1 ge358_1)
                clear hva_ hvn_ hvc_ ge358_1 ul358_1
                clear hcc358 hce358
                have HR358_0 := Aside0.mk hi358_0
                have HC358_0 := Aside0.mk hl358_0
                clear hi358_0 hl358_0
                have HR358_1 := Aside0.mk hi358_1
                have HC358_1 := Aside0.mk hl358_1
                clear hi358_1 hl358_1
                replace p358 := eq_true p358
                replace q358 := eq_true q358
                go_wp2_with (first | ((with_reducible refine gate_dst (N := 5) rfl ?_); refine bx_ 5 #[.slice none 0 0, .slice none 0 0] 33 ?_; intro gb359 hg w16 hbox hb; replace HO_13 := Aside0.mk (Kd.N_below (Kd.N_elderB (by (with_reducible repeat (first | apply Kd.N_alloc | apply Kd.N_drewN | apply Kd.N_drew)); exact HO_13.out) gb359 (Nat.le_of_eq hg.symm)) hb); replace HL358_0 := Aside0.mk (Kd.V_below (Kd.V_elderB (by (with_reducible repeat (first | apply Kd.V_alloc | apply Kd.V_drewN | apply Kd.V_drew)); exact HL358_0.out) gb359 (Nat.le_of_eq hg.symm)) hb); replace HL358_1 := Aside0.mk (Kd.V_below (Kd.V_elderB (by (with_reducible repeat (first | apply Kd.V_alloc | apply Kd.V_drewN | apply Kd.V_drew)); exact HL358_1.out) gb359 (Nat.le_of_eq hg.symm)) hb); replace HR358_0 := Aside0.mk (Kd.C_below (by repeat (first | (with_reducible exact HR358_0.out) | (with_reducible refine Kd.C_alloc ?_ _) | (with_reducible refine Kd.C_drewN ?_ _) | (with_reducible refine Kd.C_drew ?_) | exact HR358_0.out)) hb); replace HR358_1 := Aside0.mk (Kd.C_below (by repeat (first | (with_reducible exact HR358_1.out) | (with_reducible refine Kd.C_alloc ?_ _) | (with_reducible refine Kd.C_drewN ?_ _) | (with_reducible refine Kd.C_drew ?_) | exact HR358_1.out)) hb); have BK359 := Aside0.mk hbox; have GW359 := gw_ w hg; have GE359 := GW359; replace HB := b1_ hb; clear hb hbox hg; obtain ⟨hcz17_0, hcz17_1, hfz17_0, hfz17_1⟩ := c2_ BK359) | ((with_reducible refine gate_callee (f := 27) rfl ?_); refine gL_ (some 20) Try.func27 #[.agg #[.slice A358_0 ((rd_T33 t355 x15_2).f0).length c358_0, .slice A358_1 ((rd_T33 t355 x15_2).f1).length c358_1]] rfl qa_ ?_; (with_reducible refine (impl_GenusOf.calls k2 _ _ ((rd_T33 t355 x15_2).f0) _ _ ((rd_T33 t355 x15_2).f1) t360 _ ?side1 ?side2 ?side3 ?side4 A11.out).mono ?_); (case side1 => repeat (first | exact ((Kd.V_reads' (by (with_reducible repeat (first | apply Kd.V_alloc | apply Kd.V_drewN | apply Kd.V_drew)); exact (Kd.V_mono (Kd.V_far (p := ⟨gb359, 1, none⟩) (Kd.V_far (p := ⟨gb359, 0, none⟩) (Kd.V_mono HL358_0.out (fun k_ hk => (⟨hk, hk.2⟩ : _ ∧ k_ ≠ gb359))) (fun _ hk => hk.2) (.slice A358_0 ((rd_T33 t355 x15_2).f0).length c358_0)) (fun _ hk => hk.2) (.slice A358_1 ((rd_T33 t355 x15_2).f1).length c358_1)) (fun _ h_ => h_.1)))).2.2) | (with_reducible refine Kd.C_alloc ?_ _) | (with_reducible refine Kd.C_drewN ?_ _) | (with_reducible refine Kd.C_drew ?_))); (case side2 => exact HC358_0.out); (case side3 => repeat (first | exact ((Kd.V_reads' (by (with_reducible repeat (first | apply Kd.V_alloc | apply Kd.V_drewN | apply Kd.V_drew)); exact (Kd.V_mono (Kd.V_far (p := ⟨gb359, 1, none⟩) (Kd.V_far (p := ⟨gb359, 0, none⟩) (Kd.V_mono HL358_1.out (fun k_ hk => (⟨hk, hk.2⟩ : _ ∧ k_ ≠ gb359))) (fun _ hk => hk.2) (.slice A358_0 ((rd_T33 t355 x15_2).f0).length c358_0)) (fun _ hk => hk.2) (.slice A358_1 ((rd_T33 t355 x15_2).f1).length c358_1)) (fun _ h_ => h_.1)))).2.2) | (with_reducible refine Kd.C_alloc ?_ _) | (with_reducible refine Kd.C_drewN ?_ _) | (with_reducible refine Kd.C_drew ?_))); (case side4 => exact HC358_1.out); rintro e w18 ⟨rfl, hb⟩; refine ⟨_, rfl, ?_⟩; replace HO_13 := Aside0.mk (Kd.N_below (by (with_reducible repeat (first | apply Kd.N_alloc | apply Kd.N_drewN | apply Kd.N_drew)); exact (Kd.N_mono (Kd.N_far (p := ⟨gb359, 1, none⟩) (Kd.N_far (p := ⟨gb359, 0, none⟩) (Kd.N_mono HO_13.out (fun k_ hk => (⟨hk, hk.2⟩ : _ ∧ k_ ≠ gb359))) (fun _ hk => hk.2) (.slice A358_0 ((rd_T33 t355 x15_2).f0).length c358_0)) (fun _ hk => hk.2) (.slice A358_1 ((rd_T33 t355 x15_2).f1).length c358_1)) (fun _ h_ => h_.1))) hb); replace HR358_0 := Aside0.mk (Kd.C_below ((Kd.V_reads' (by (with_reducible repeat (first | apply Kd.V_alloc | apply Kd.V_drewN | apply Kd.V_drew)); exact (Kd.V_mono (Kd.V_far (p := ⟨gb359, 1, none⟩) (Kd.V_far (p := ⟨gb359, 0, none⟩) (Kd.V_mono HL358_0.out (fun k_ hk => (⟨hk, hk.2⟩ : _ ∧ k_ ≠ gb359))) (fun _ hk => hk.2) (.slice A358_0 ((rd_T33 t355 x15_2).f0).length c358_0)) (fun _ hk => hk.2) (.slice A358_1 ((rd_T33 t355 x15_2).f1).length c358_1)) (fun _ h_ => h_.1)))).2.2) hb); replace HL358_0 := Aside0.mk (Kd.V_below (by (with_reducible repeat (first | apply Kd.V_alloc | apply Kd.V_drewN | apply Kd.V_drew)); exact (Kd.V_mono (Kd.V_far (p := ⟨gb359, 1, none⟩) (Kd.V_far (p := ⟨gb359, 0, none⟩) (Kd.V_mono HL358_0.out (fun k_ hk => (⟨hk, hk.2⟩ : _ ∧ k_ ≠ gb359))) (fun _ hk => hk.2) (.slice A358_0 ((rd_T33 t355 x15_2).f0).length c358_0)) (fun _ hk => hk.2) (.slice A358_1 ((rd_T33 t355 x15_2).f1).length c358_1)) (fun _ h_ => h_.1))) hb); replace HR358_1 := Aside0.mk (Kd.C_below ((Kd.V_reads' (by (with_reducible repeat (first | apply Kd.V_alloc | apply Kd.V_drewN | apply Kd.V_drew)); exact (Kd.V_mono (Kd.V_far (p := ⟨gb359, 1, none⟩) (Kd.V_far (p := ⟨gb359, 0, none⟩) (Kd.V_mono HL358_1.out (fun k_ hk => (⟨hk, hk.2⟩ : _ ∧ k_ ≠ gb359))) (fun _ hk => hk.2) (.slice A358_0 ((rd_T33 t355 x15_2).f0).length c358_0)) (fun _ hk => hk.2) (.slice A358_1 ((rd_T33 t355 x15_2).f1).length c358_1)) (fun _ h_ => h_.1)))).2.2) hb); replace HL358_1 := Aside0.mk (Kd.V_below (by (with_reducible repeat (first | apply Kd.V_alloc | apply Kd.V_drewN | apply Kd.V_drew)); exact (Kd.V_mono (Kd.V_far (p := ⟨gb359, 1, none⟩) (Kd.V_far (p := ⟨gb359, 0, none⟩) (Kd.V_mono HL358_1.out (fun k_ hk => (⟨hk, hk.2⟩ : _ ∧ k_ ≠ gb359))) (fun _ hk => hk.2) (.slice A358_0 ((rd_T33 t355 x15_2).f0).length c358_0)) (fun _ hk => hk.2) (.slice A358_1 ((rd_T33 t355 x15_2).f1).length c358_1)) (fun _ h_ => h_.1))) hb); replace BK359 := Aside0.mk (blk_below (g := gb359) (o := .cells #[.slice A358_0 ((rd_T33 t355 x15_2).f0).length c358_0, .slice A358_1 ((rd_T33 t355 x15_2).f1).length c358_1] 33 (0, 0)) qp_ hb); replace HB := b1_ hb; clear hb))
                go_roundg k2
                case measure => have := HJ1.out; have := HK2.out; omega
                case rel => exact ⟨(x3_2), (wrap64 (x15_2 + 1)), qc_, qc_, H', ⟨by have := HJ1.out; have := HK2.out; omega⟩, ⟨by (with_reducible repeat (first | apply Kd.N_alloc | apply Kd.N_drewN | apply Kd.N_drew)); exact Kd.N_mono HO_13.out (fun _ hk => trivial)⟩, ⟨hB_⟩⟩
            · rw [if_neg c8] at H
              have c8b0 := decide_eq_false c8
              clear c8
              obtain rfl := Option.some.inj H
              go_wp2
              go_ret
              exact ⟨qb_, hB_⟩
end Go.Proofs.Ytoijcallajegfaa.A
end
section
namespace Go.Proofs.Ytoijcallajegfaa.A
open Go.RowKit Go.Proofs.YtoijcallajegfaaW.PrintWords Go.Proofs.YtoijcallajegfaaW.PrintLast Go.Proofs.YtoijcallajegfaaW.PrintMore
attribute [local go_sem] max2_int min2_int max_two min_two max_three min_three max_four min_four
set_option linter.unusedVariables false
set_option linter.unusedSimpArgs false
mutual
def spec_l10Perms.l0 : Nat → Int → List (List Int) → Int → Option ((List (List Int)))
  | 0, _, _, _ => none
  | k + 1, x0, x3, x4 => if x4 < x0 then (spec_l10Perms.l1 k x0 x4 (([] : List (List Int))) x3 (x3.length : Int) 0) else (some x3)
def spec_l10Perms.l1 : Nat → Int → Int → List (List Int) → List (List Int) → Int → Int → Option ((List (List Int)))
  | 0, _, _, _, _, _, _ => none
  | k + 1, x0, x4, x5, x17, x18, x19 => if x19 < x18 then (if 0 ≤ x19 then (if x19 < (x17.length : Int) then (spec_l10Perms.l2 k x0 x4 x5 (rd_L5 x17 x19) 0 x17 x18 x19) else (none)) else (none)) else (spec_l10Perms.l0 k x0 x5 (wrap64 (x4 + 1)))
def spec_l10Perms.l2 : Nat → Int → Int → List (List Int) → List Int → Int → List (List Int) → Int → Int → Option ((List (List Int)))
  | 0, _, _, _, _, _, _, _, _ => none
  | k + 1, x0, x4, x5, x7, x8, x17, x18, x19 => if x8 < x0 then ((spec_l02Has.f k x7 x8).bind fun t1155 => (if t1155 = true then (spec_l10Perms.l2 k x0 x4 x5 x7 (wrap64 (x8 + 1)) x17 x18 x19) else ((some (([] : List Int) : List Int)).bind fun y1156 => (if y1156.length + x7.length < 17592186044416 then ((some (y1156 ++ x7 : List Int)).bind fun y1159 => (if y1159.length < 17592186044416 then (if x5.length < 5864062014805 then (spec_l10Perms.l2 k x0 x4 (x5 ++ [(y1159 ++ [x8])]) x7 (wrap64 (x8 + 1)) x17 x18 x19) else (none)) else (none))) else (none))))) else (spec_l10Perms.l1 k x0 x4 x5 x17 x18 (wrap64 (x19 + 1)))
end
def spec_l10Perms.f (k : Nat) (a0 : Int) : Option ((List (List Int))) := spec_l10Perms.l0 k a0 (([(([] : List Int))] : List (List Int))) 0
theorem spec_l10Perms.mono_l : ∀ k, (∀ y0 y1 y2, LeO (spec_l10Perms.l0 k y0 y1 y2) (spec_l10Perms.l0 (k + 1) y0 y1 y2)) ∧ (∀ y0 y1 y2 y3 y4 y5, LeO (spec_l10Perms.l1 k y0 y1 y2 y3 y4 y5) (spec_l10Perms.l1 (k + 1) y0 y1 y2 y3 y4 y5)) ∧ (∀ y0 y1 y2 y3 y4 y5 y6 y7, LeO (spec_l10Perms.l2 k y0 y1 y2 y3 y4 y5 y6 y7) (spec_l10Perms.l2 (k + 1) y0 y1 y2 y3 y4 y5 y6 y7))
  | 0 => ⟨fun _ _ _ r h => by simp [spec_l10Perms.l0] at h, fun _ _ _ _ _ _ r h => by simp [spec_l10Perms.l1] at h, fun _ _ _ _ _ _ _ _ r h => by simp [spec_l10Perms.l2] at h⟩
  | k + 1 => by
    obtain ⟨ih0, ih1, ih2⟩ := spec_l10Perms.mono_l k
    refine ⟨?_, ?_, ?_⟩
    · intro y0 y1 y2
      unfold spec_l10Perms.l0
      repeat' first|exact ih0 _ _ _|exact ih1 _ _ _ _ _ _|exact ih2 _ _ _ _ _ _ _ _|exact spec_l02Has.mono _ _ _|exact lo_|refine LeO.ite ?_ ?_|refine LeO.bind ?_ (fun _ => ?_)
    · intro y0 y1 y2 y3 y4 y5
      unfold spec_l10Perms.l1
      repeat' first|exact ih0 _ _ _|exact ih1 _ _ _ _ _ _|exact ih2 _ _ _ _ _ _ _ _|exact spec_l02Has.mono _ _ _|exact lo_|refine LeO.ite ?_ ?_|refine LeO.bind ?_ (fun _ => ?_)
    · intro y0 y1 y2 y3 y4 y5 y6 y7
      unfold spec_l10Perms.l2
      repeat' first|exact ih0 _ _ _|exact ih1 _ _ _ _ _ _|exact ih2 _ _ _ _ _ _ _ _|exact spec_l02Has.mono _ _ _|exact lo_|refine LeO.ite ?_ ?_|refine LeO.bind ?_ (fun _ => ?_)
theorem spec_l10Perms.mono : ∀ a0 k, LeO (spec_l10Perms.f k a0) (spec_l10Perms.f (k + 1) a0) := by
  intro a0 k
  obtain ⟨ih0, ih1, ih2⟩ := spec_l10Perms.mono_l k
  unfold spec_l10Perms.f
  repeat' first|exact ih0 _ _ _|exact ih1 _ _ _ _ _ _|exact ih2 _ _ _ _ _ _ _ _|exact spec_l02Has.mono _ _ _|exact lo_|refine LeO.ite ?_ ?_|refine LeO.bind ?_ (fun _ => ?_)
set_option maxHeartbeats 8000000 in
set_option maxRecDepth 100000 in
theorem spec_l10Perms.calls (k : Nat) (a0 : Int) (r : List (List Int)) (w : World) (h : spec_l10Perms.f k a0 = some r) :
    Calls Try.prog 84 #[.int .i64 a0] w fun e w' => ∃ v0_ : Value, e = .returned (v0_) ∧ Kd.N (Kd.slice 3 (Kd.int .i64)) 23 w' w.heap.size (fun k_ => (w.heap.size ≤ k_)) v0_ r ∧ Below w.heap.size w w' := by
  have HB := Aside0.mk (Below.refl w.heap.size w)
  have H := h
  unfold spec_l10Perms.f at H
  clear h
  obtain ⟨y1145, hy1145⟩ : ∃ y_ : List Int, y_ = (([] : List Int)) := ⟨_, rfl⟩
  replace H : (spec_l10Perms.l0 k a0 (([y1145] : List (List Int))) 0) = some r := by first | (rw [hy1145]; exact H) | exact H
  have Ny1145 := Aside0.mk hy1145
  clear hy1145
  obtain ⟨y1148, hy1148⟩ : ∃ y_ : List (List Int), y_ = (([y1145] : List (List Int))) := ⟨_, rfl⟩
  replace H : (spec_l10Perms.l0 k a0 y1148 0) = some r := by first | (rw [hy1148]; exact H) | exact H
  have Ny1148 := Aside0.mk hy1148
  clear hy1148
  have H' := Aside0.mk H
  clear H
  go_enter Try.func84, Try.ntmps84
  go_wp2_with (first | ((with_reducible refine gate_dst (N := 9) rfl ?_); refine Kd.R_lit (Kd.int .i64) _ 3 ?hg (N := 9) ?hd (xs := ([] : List Int)) (inner := []) (ok := fun _ => True) (okp := fun _ => True) ?hr ?hp (fun _ hk => hk) trivial (Below.refl _ _) (Nat.le_refl _) (by simp) ?_; (case hd => rfl); (case hg => rfl); (case hr => first | (go_simp; done) | (go_simp; rfl)); (case hp => exact (Reps.none _ _)); intro v1146 w2 ho3 hb hg_ hnew_; clear hg_ hnew_; (first | rw [← Ny1145.out] at ho3 | (simp only [Int.reduceToNat] at ho3; rw [← Ny1145.out] at ho3)); have HO1147 := Aside0.mk (Kd.R_lower (Kd.R_newM (M := fun k_ => (w.heap.size ≤ k_)) ho3 (below_size hB_) (fun k_ h_ => h_)) (below_size hB_)); replace HB := b1_ hb; clear hb ho3; obtain ⟨Ao4, co4, eo4⟩ := Kd.R_slice HO1147.out; subst eo4) | ((with_reducible refine gate_dst (N := 10) rfl ?_); refine Kd.N_lit (Kd.slice 3 (Kd.int .i64)) _ 23 ?hg (N' := 10) ?hd (xs := ([y1145] : List (List Int))) (inner := [.slice Ao4 y1145.length co4]) (ok := (fun k_ => (w.heap.size ≤ k_))) (okp := (fun k_ => (w.heap.size ≤ k_))) ?hr ?hp (fun _ hk => hk) ((show ∀ k_, w2.heap.size ≤ k_ → (fun k_ => (w.heap.size ≤ k_)) k_ from fun k_ hk => (Nat.le_trans (below_size hB_) hk)) _ (Nat.le_refl _)) (Below.refl _ _) (Nat.le_refl _) (by simp) ?_; (case hd => rfl); (case hg => rfl); (case hr => first | (go_simp; done) | (go_simp; rfl)); (case hp => exact (Reps.one (show Kd.FK (Kd.slice 3 (Kd.int .i64)) _ _ y1145 [.slice Ao4 y1145.length co4] from (Kd.FK_slice_mk (Kd.R_reads' (Kd.R_mono (ok' := (fun k_ => (w.heap.size ≤ k_))) (HO1147.out) (fun k_ hk => hk.1))).2.1 (Kd.R_F (Kd.R_mono (ok' := (fun k_ => (w.heap.size ≤ k_))) (HO1147.out) (fun k_ hk => hk.1))))) (Reps.none _ _))); intro v1149 w5 ho6 hb hg_ hnew_; clear hg_ hnew_; (first | rw [← Ny1148.out] at ho6 | (simp only [Int.reduceToNat] at ho6; rw [← Ny1148.out] at ho6)); have HO1150 := Aside0.mk (Kd.N_lower ho6 (below_size hB_)); replace HB := b1_ hb; clear HO1147; clear hb ho6))
  go_loopg [3, 4] k (fun kq v3 v4 w' => ∃ (x3_1 : List (List Int)) (x4_1 : Int), v4 = .int .i64 x4_1 ∧ Aside0 (spec_l10Perms.l0 kq a0 x3_1 x4_1 = some r) ∧ Aside0 (kq ≤ k) ∧ Aside0 (Kd.N (Kd.slice 3 (Kd.int .i64)) 23 w' w.heap.size (fun k_ => (w.heap.size ≤ k_)) v3 x3_1) ∧ Aside0 (Below w.heap.size w w'))
  case atStart => exact ⟨(y1148), (0), qc_, H', ⟨Nat.le_refl _⟩, ⟨by (with_reducible repeat (first | apply Kd.N_alloc | apply Kd.N_drewN | apply Kd.N_drew)); exact HO1150.out⟩, ⟨hB_⟩⟩
  case round =>
    clear H'
    obtain ⟨x3_1, x4_1, rfl, HA, HK1, HO_3, HB⟩ := hrel
    cases gk with
    | zero => exact absurd HA.out (by simp [spec_l10Perms.l0])
    | succ k1 =>
      have H := HA.out
      clear HA
      simp only [spec_l10Perms.l0] at H
      by_cases c7 : x4_1 < a0
      · rw [if_pos c7] at H
        have c7b0 := decide_eq_true c7
        clear c7
        obtain ⟨y1151, hy1151⟩ : ∃ y_ : List (List Int), y_ = (([] : List (List Int))) := ⟨_, rfl⟩
        replace H : (spec_l10Perms.l1 k1 a0 x4_1 y1151 x3_1 (x3_1.length : Int) 0) = some r := by first | (rw [hy1151]; exact H) | exact H
        have Ny1151 := Aside0.mk hy1151
        clear hy1151
        have H' := Aside0.mk H
        clear H
        go_wp2_with (first | ((with_reducible refine gate_dst (N := 16) rfl ?_); refine Kd.N_lit (Kd.slice 3 (Kd.int .i64)) _ 23 ?hg (N' := 16) ?hd (xs := ([] : List (List Int))) (inner := []) (ok := (fun k_ => (w.heap.size ≤ k_) ∧ some k_ ≠ (u3 : Value).ownBlock)) (okp := (fun k_ => (w.heap.size ≤ k_) ∧ some k_ ≠ (u3 : Value).ownBlock)) ?hr ?hp (fun _ hk => hk) ((show ∀ k_, wr.heap.size ≤ k_ → (fun k_ => (w.heap.size ≤ k_) ∧ some k_ ≠ (u3 : Value).ownBlock) k_ from fun k_ hk => ⟨(Nat.le_trans (below_size hB_) hk), Kd.fresh' (Kd.N_lt (by (with_reducible repeat (first | apply Kd.N_alloc | apply Kd.N_drewN | apply Kd.N_drew)); exact HO_3.out)) k_ hk⟩) _ (Nat.le_refl _)) (Below.refl _ _) (Nat.le_refl _) (by simp) ?_; (case hd => rfl); (case hg => rfl); (case hr => first | (go_simp; done) | (go_simp; rfl)); (case hp => exact (Reps.none _ _)); intro v1152 w8 ho9 hb hg_ hnew_; clear hg_ hnew_; (first | rw [← Ny1151.out] at ho9 | (simp only [Int.reduceToNat] at ho9; rw [← Ny1151.out] at ho9)); replace HO_3 := Aside0.mk (Kd.N_elder' (by (with_reducible repeat (first | apply Kd.N_alloc | apply Kd.N_drewN | apply Kd.N_drew)); exact HO_3.out) (Kd.N_base ho9) hb); have HO1153 := Aside0.mk (Kd.N_lower ho9 (below_size hB_)); replace HB := b1_ hb; clear hb ho9; obtain ⟨Ao10, co10, eo10⟩ := Kd.N_slice HO_3.out; subst eo10))
        go_loopg [5, 19] k1 (fun kq v5 v19 w' => ∃ (x5_2 : List (List Int)) (x19_2 : Int), v19 = .int .i64 x19_2 ∧ Aside0 (spec_l10Perms.l1 kq a0 x4_1 x5_2 x3_1 (x3_1.length : Int) x19_2 = some r) ∧ Aside0 (kq ≤ k1) ∧ Aside0 (Kd.N (Kd.slice 3 (Kd.int .i64)) 23 w' w.heap.size (fun k_ => (w.heap.size ≤ k_) ∧ some k_ ≠ ((.slice Ao10 x3_1.length co10) : Value).ownBlock) v5 x5_2) ∧ Aside0 (Kd.N (Kd.slice 3 (Kd.int .i64)) 23 w' w.heap.size (fun k_ => (w.heap.size ≤ k_) ∧ some k_ ≠ (v5 : Value).ownBlock) (.slice Ao10 x3_1.length co10) x3_1) ∧ Aside0 (Below w.heap.size w w'))
        case atStart => exact ⟨(y1151), (0), qc_, H', ⟨Nat.le_refl _⟩, ⟨by (with_reducible repeat (first | apply Kd.N_alloc | apply Kd.N_drewN | apply Kd.N_drew)); exact HO1153.out⟩, ⟨by (with_reducible repeat (first | apply Kd.N_alloc | apply Kd.N_drewN | apply Kd.N_drew)); exact HO_3.out⟩, ⟨hB_⟩⟩
        case round =>
          clear H'
          obtain ⟨x5_2, x19_2, rfl, HA, HK2, HO_5, HO_17, HB⟩ := hrel
          cases gk with
          | zero => exact absurd HA.out (by simp [spec_l10Perms.l1])
          | succ k2 =>
            have H := HA.out
            clear HA
            simp only [spec_l10Perms.l1] at H
            by_cases c11 : x19_2 < (x3_1.length : Int)
            · rw [if_pos c11] at H
              have c11b0 := decide_eq_true c11
              clear c11
              have c12 := cp_ H
              replace H := ca_ H
              have c12b0 := decide_eq_true c12
              clear c12
              have c13 := cp_ H
              replace H := ca_ H
              have c13b0 := decide_eq_true c13
              clear c13
              have H' := Aside0.mk H
              clear H
              have p1154 : 0 ≤ (x19_2 : Int) := of_decide_eq_true qe_
              have q1154 : x19_2 < (x3_1.length : Int) := of_decide_eq_true qe_
              obtain ⟨ad1154, A1154_0, c1154_0, e1154, hx1154_0, hl1154_0, hi1154_0⟩ := at_L5 (Kd.N_reads' HO_17.out).2.2 x19_2 p1154 q1154
              cases e1154
              obtain ⟨ce1154, hce1154, hMe1154, hcc1154⟩ := Kd.N_get HO_17.out [] x19_2 p1154 (by first | exact q1154 | exact of_decide_eq_true qe_ | (have e_ := (Kd.N_reads' HO_17.out).1; omega))
              obtain ⟨ua1154_0, uc1154_0, rfl, ul1154_0, ge1154_0⟩ := Kd.FK_slice_open hMe1154
              have hv1154_0 := hcc1154 0 _ rfl
              rw [Nat.add_zero, show ((Kd.slice 3 (Kd.int .i64))).sz = 1 from rfl, Nat.mul_one] at hv1154_0
              replace hv1154_0 := Option.some.inj (hv1154_0.symm.trans hx1154_0)
              injection hv1154_0 with hva_ hvn_ hvc_
              rw [hva_] at ge1154_0
              rw [hvc_] at ul1154_0
              have HL1154_0 := Aside0.mk (show Kd.V (Kd.int .i64) 3 _ w.heap.size _ _ (rd_L5 x3_1 x19_2) from Kd.V_mk ul1154_0 ge1154_0)
              clear hva_ hvn_ hvc_ ge1154_0 ul1154_0
              clear hcc1154 hce1154
              have HR1154_0 := Aside0.mk hi1154_0
              have HC1154_0 := Aside0.mk hl1154_0
              clear hi1154_0 hl1154_0
              replace p1154 := eq_true p1154
              replace q1154 := eq_true q1154
              go_wp2
              go_loopg [5, 8] k2 (fun kq v5 v8 w' => ∃ (x5_3 : List (List Int)) (x8_3 : Int), v8 = .int .i64 x8_3 ∧ Aside0 (spec_l10Perms.l2 kq a0 x4_1 x5_3 (rd_L5 x3_1 x19_2) x8_3 x3_1 (x3_1.length : Int) x19_2 = some r) ∧ Aside0 (kq ≤ k2) ∧ Aside0 (Kd.N (Kd.slice 3 (Kd.int .i64)) 23 w' w.heap.size (fun k_ => (w.heap.size ≤ k_) ∧ some k_ ≠ ((.slice (some ad1154) x3_1.length co10) : Value).ownBlock) v5 x5_3) ∧ Aside0 (Kd.V (Kd.int .i64) 3 w' w.heap.size (fun k_ => (w.heap.size ≤ k_) ∧ some k_ ≠ (v5 : Value).ownBlock ∧ some k_ ≠ ((.slice (some ad1154) x3_1.length co10) : Value).ownBlock) (.slice A1154_0 (rd_L5 x3_1 x19_2).length c1154_0) (rd_L5 x3_1 x19_2)) ∧ Aside0 (Kd.N (Kd.slice 3 (Kd.int .i64)) 23 w' w.heap.size (fun k_ => (w.heap.size ≤ k_) ∧ some k_ ≠ (v5 : Value).ownBlock) (.slice (some ad1154) x3_1.length co10) x3_1) ∧ Aside0 (Below w.heap.size w w'))
              case atStart => exact ⟨(x5_2), (0), qc_, H', ⟨Nat.le_refl _⟩, ⟨by (with_reducible repeat (first | apply Kd.N_alloc | apply Kd.N_drewN | apply Kd.N_drew)); exact HO_5.out⟩, ⟨by (with_reducible repeat (first | apply Kd.V_alloc | apply Kd.V_drewN | apply Kd.V_drew)); exact Kd.V_mono HL1154_0.out (fun _ hk => ⟨hk.1.1, ⟨hk.1.2, hk.2⟩⟩)⟩, ⟨by (with_reducible repeat (first | apply Kd.N_alloc | apply Kd.N_drewN | apply Kd.N_drew)); exact HO_17.out⟩, ⟨hB_⟩⟩
              case round =>
                clear H'
                obtain ⟨x5_3, x8_3, rfl, HA, HK3, HO_5, HO_7, HO_17, HB⟩ := hrel
                cases gk with
                | zero => exact absurd HA.out (by simp [spec_l10Perms.l2])
                | succ k3 =>
                  have H := HA.out
                  clear HA
                  simp only [spec_l10Perms.l2] at H
                  by_cases c14 : x8_3 < a0
                  · rw [if_pos c14] at H
                    have c14b0 := decide_eq_true c14
                    clear c14
                    obtain ⟨t1155, A15, H⟩ := bi_ H
                    by_cases c16 : t1155 = true
                    · subst c16
                      rw [if_pos rfl] at H
                      have H' := Aside0.mk H
                      clear H
                      go_wp2_with (first | ((with_reducible refine gate_callee (f := 126) rfl ?_); refine gL_ (some 30) Try.func126 #[.slice A1154_0 (rd_L5 x3_1 x19_2).length c1154_0, .int .i64 x8_3] rfl qa_ ?_; (with_reducible refine (spec_l02Has.calls k3 _ _ (rd_L5 x3_1 x19_2) x8_3 true _ (cw_ ((Kd.V_reads' HO_7.out).2.2)) ((Kd.V_reads' HO_7.out).2.1) A15.out).mono ?_); rintro e w' ⟨rfl, ⟨nd, rfl⟩⟩; refine ⟨_, rfl, ?_⟩))
                      go_roundg k3
                      case measure => have := HK1.out; have := HK2.out; have := HK3.out; omega
                      case rel => exact ⟨(x5_3), (wrap64 (x8_3 + 1)), qc_, H', ⟨by have := HK1.out; have := HK2.out; have := HK3.out; omega⟩, ⟨by (with_reducible repeat (first | apply Kd.N_alloc | apply Kd.N_drewN | apply Kd.N_drew)); exact HO_5.out⟩, ⟨by (with_reducible repeat (first | apply Kd.V_alloc | apply Kd.V_drewN | apply Kd.V_drew)); exact HO_7.out⟩, ⟨by (with_reducible repeat (first | apply Kd.N_alloc | apply Kd.N_drewN | apply Kd.N_drew)); exact HO_17.out⟩, ⟨hB_⟩⟩
                    · replace c16 := Bool.eq_false_iff.mpr c16
                      subst c16
                      have H1 : ((some (([] : List Int) : List Int)).bind fun y1156 => (if y1156.length + (rd_L5 x3_1 x19_2).length < 17592186044416 then ((some (y1156 ++ (rd_L5 x3_1 x19_2) : List Int)).bind fun y1159 => (if y1159.length < 17592186044416 then (if x5_3.length < 5864062014805 then (spec_l10Perms.l2 k3 a0 x4_1 (x5_3 ++ [(y1159 ++ [x8_3])]) (rd_L5 x3_1 x19_2) (wrap64 (x8_3 + 1)) x3_1 (x3_1.length : Int) x19_2) else (none)) else (none))) else (none))) = some r := by rw [if_neg (show ¬ (false = true) by decide)] at H; exact H
                      clear H
                      have H := H1
                      clear H1
                      obtain ⟨y1156, hy1156⟩ : ∃ y_ : List Int, y_ = (([] : List Int)) := ⟨_, rfl⟩
                      replace H : (if y1156.length + (rd_L5 x3_1 x19_2).length < 17592186044416 then ((some (y1156 ++ (rd_L5 x3_1 x19_2) : List Int)).bind fun y1159 => (if y1159.length < 17592186044416 then (if x5_3.length < 5864062014805 then (spec_l10Perms.l2 k3 a0 x4_1 (x5_3 ++ [(y1159 ++ [x8_3])]) (rd_L5 x3_1 x19_2) (wrap64 (x8_3 + 1)) x3_1 (x3_1.length : Int) x19_2) else (none)) else (none))) else (none)) = some r := by first | (rw [hy1156]; exact H) | exact H
                      have Ny1156 := Aside0.mk hy1156
                      clear hy1156
                      have c17 := cp_ H
                      replace H := ca_ H
                      have LMc17 := Aside0.mk c17
                      clear c17
                      obtain ⟨y1159, hy1159⟩ : ∃ y_ : List Int, y_ = (y1156 ++ (rd_L5 x3_1 x19_2)) := ⟨_, rfl⟩
                      replace H : (if y1159.length < 17592186044416 then (if x5_3.length < 5864062014805 then (spec_l10Perms.l2 k3 a0 x4_1 (x5_3 ++ [(y1159 ++ [x8_3])]) (rd_L5 x3_1 x19_2) (wrap64 (x8_3 + 1)) x3_1 (x3_1.length : Int) x19_2) else (none)) else (none)) = some r := by first | (rw [hy1159]; exact H) | exact H
                      have Ny1159 := Aside0.mk hy1159
                      clear hy1159
                      have c18 := cp_ H
                      replace H := ca_ H
                      have LMc18 := Aside0.mk c18
                      clear c18
                      obtain ⟨y1162, hy1162⟩ : ∃ y_ : List Int, y_ = (y1159 ++ [x8_3]) := ⟨_, rfl⟩
                      replace H : (if x5_3.length < 5864062014805 then (spec_l10Perms.l2 k3 a0 x4_1 (x5_3 ++ [y1162]) (rd_L5 x3_1 x19_2) (wrap64 (x8_3 + 1)) x3_1 (x3_1.length : Int) x19_2) else (none)) = some r := by first | (rw [hy1162]; exact H) | exact H
                      have Ny1162 := Aside0.mk hy1162
                      clear hy1162
                      have c19 := cp_ H
                      replace H := ca_ H
                      have LMc19 := Aside0.mk c19
                      clear c19
                      obtain ⟨y1165, hy1165⟩ : ∃ y_ : List (List Int), y_ = (x5_3 ++ [y1162]) := ⟨_, rfl⟩
                      replace H : (spec_l10Perms.l2 k3 a0 x4_1 y1165 (rd_L5 x3_1 x19_2) (wrap64 (x8_3 + 1)) x3_1 (x3_1.length : Int) x19_2) = some r := by first | (rw [hy1165]; exact H) | exact H
                      have Ny1165 := Aside0.mk hy1165
                      clear hy1165
                      have H' := Aside0.mk H
                      clear H
                      go_wp2_with (first | ((with_reducible refine gate_callee (f := 126) rfl ?_); refine gL_ (some 30) Try.func126 #[.slice A1154_0 (rd_L5 x3_1 x19_2).length c1154_0, .int .i64 x8_3] rfl qa_ ?_; (with_reducible refine (spec_l02Has.calls k3 _ _ (rd_L5 x3_1 x19_2) x8_3 false _ (cw_ ((Kd.V_reads' HO_7.out).2.2)) ((Kd.V_reads' HO_7.out).2.1) A15.out).mono ?_); rintro e w' ⟨rfl, ⟨nd, rfl⟩⟩; refine ⟨_, rfl, ?_⟩) | ((with_reducible refine gate_dst (N := 33) rfl ?_); refine Kd.R_lit (Kd.int .i64) _ 3 ?hg (N := 33) ?hd (xs := ([] : List Int)) (inner := []) (ok := fun _ => True) (okp := fun _ => True) ?hr ?hp (fun _ hk => hk) trivial (Below.refl _ _) (Nat.le_refl _) (by simp) ?_; (case hd => rfl); (case hg => rfl); (case hr => first | (go_simp; done) | (go_simp; rfl)); (case hp => exact (Reps.none _ _)); intro v1157 w20 ho21 hb hg_ hnew_; clear hg_ hnew_; (first | rw [← Ny1156.out] at ho21 | (simp only [Int.reduceToNat] at ho21; rw [← Ny1156.out] at ho21)); replace HO_5 := Aside0.mk (Kd.N_elder' (by (with_reducible repeat (first | apply Kd.N_alloc | apply Kd.N_drewN | apply Kd.N_drew)); exact HO_5.out) (Kd.R_base ho21) hb); replace HO_7 := Aside0.mk (Kd.V_elder' (by (with_reducible repeat (first | apply Kd.V_alloc | apply Kd.V_drewN | apply Kd.V_drew)); exact HO_7.out) (Kd.R_base ho21) hb); replace HO_17 := Aside0.mk (Kd.N_elder' (by (with_reducible repeat (first | apply Kd.N_alloc | apply Kd.N_drewN | apply Kd.N_drew)); exact HO_17.out) (Kd.R_base ho21) hb); have HO1158 := Aside0.mk (Kd.R_lower (Kd.R_newM (M := fun k_ => (w.heap.size ≤ k_)) ho21 (below_size hB_) (fun k_ h_ => h_)) (below_size hB_)); replace HB := b1_ hb; clear hb ho21) | ((with_reducible refine gate_builtin (b := .append) (xs := #[.tmp 33, .tmp 34]) rfl ?_); at_builtin; refine Kd.R_append_rows (Kd.int .i64) (w0 := w) w.heap.size rfl (.tmp 33) (.tmp 34) 23 3 (.int .i64 0) 8 rfl Try.underlying23 info3 rfl (by decide) (by omega) v1157 y1156 (rd_L5 x3_1 x19_2) _ _ _ (fun k_ => (w.heap.size ≤ k_)) (fun _ => False) rfl rfl ?aO ?aR (fun _ _ h => h) (fun _ h => h.elim) ?aF ?aB ?aS ?aL ?_; (case aR => exact cw_ ((Kd.V_reads' HO_7.out).2.2)); (case aB => exact hB_); (case aF => exact (fun k_ hk => (Nat.le_trans (below_size hB_) hk))); (case aO => exact (rw_ (Kd.R_mono HO1158.out (fun _ hk => hk.1)))); (case aS => exact (below_size hB_)); (case aL => have := LMc17.out; omega); intro v1160 w22 ho hb hg hat; rw [← Ny1159.out] at ho; replace HO_5 := Aside0.mk (Kd.N_afterv (ok := (fun k_ => (w.heap.size ≤ k_) ∧ some k_ ≠ (.slice (some ad1154) x3_1.length co10 : Value).ownBlock)) (by (with_reducible repeat (first | apply Kd.N_alloc | apply Kd.N_drewN | apply Kd.N_drew)); exact HO_5.out) hg hat); replace HO_7 := Aside0.mk (Kd.V_afterv (ok := (fun k_ => (w.heap.size ≤ k_) ∧ some k_ ≠ (u5 : Value).ownBlock ∧ some k_ ≠ (.slice (some ad1154) x3_1.length co10 : Value).ownBlock)) (by (with_reducible repeat (first | apply Kd.V_alloc | apply Kd.V_drewN | apply Kd.V_drew)); exact HO_7.out) hg hat); replace HO_17 := Aside0.mk (Kd.N_afterv (ok := (fun k_ => (w.heap.size ≤ k_) ∧ some k_ ≠ (u5 : Value).ownBlock)) (by (with_reducible repeat (first | apply Kd.N_alloc | apply Kd.N_drewN | apply Kd.N_drew)); exact HO_17.out) hg hat); replace HB := Aside0.mk hb; have HO1161 := Aside0.mk ho; clear HO1158; clear ho hb hg hat) | ((with_reducible refine gate_builtin (b := .append) (xs := #[.tmp 35, .tmp 37]) rfl ?_); at_builtin; refine Kd.R_append (Kd.int .i64) (w0 := w) w.heap.size rfl (.tmp 35) (.tmp 37) 23 3 (.int .i64 0) 8 rfl Try.underlying23 info3 rfl (by decide) (by omega) v1160 y1159 x8_3 [.int .i64 x8_3] (fun k_ => (w.heap.size ≤ k_)) (fun _ => False) rfl rfl ?aP (fun _ hk => hk.elim) ?aF ?aO ?aB ?aS ?aL ?_; (case aP => exact rfl); (case aB => exact hB_); (case aF => exact (fun k_ hk => (Nat.le_trans (below_size hB_) hk))); (case aO => exact (rr_ HO1161)); (case aS => exact (below_size hB_)); (case aL => have := LMc18.out; omega); intro v1163 w23 ho hb hg hat; rw [← Ny1162.out] at ho; replace HO_5 := Aside0.mk (Kd.N_afterv (ok := (fun k_ => (w.heap.size ≤ k_) ∧ some k_ ≠ (.slice (some ad1154) x3_1.length co10 : Value).ownBlock)) (by (with_reducible repeat (first | apply Kd.N_alloc | apply Kd.N_drewN | apply Kd.N_drew)); exact HO_5.out) hg hat); replace HO_7 := Aside0.mk (Kd.V_afterv (ok := (fun k_ => (w.heap.size ≤ k_) ∧ some k_ ≠ (u5 : Value).ownBlock ∧ some k_ ≠ (.slice (some ad1154) x3_1.length co10 : Value).ownBlock)) (by (with_reducible repeat (first | apply Kd.V_alloc | apply Kd.V_drewN | apply Kd.V_drew)); exact HO_7.out) hg hat); replace HO_17 := Aside0.mk (Kd.N_afterv (ok := (fun k_ => (w.heap.size ≤ k_) ∧ some k_ ≠ (u5 : Value).ownBlock)) (by (with_reducible repeat (first | apply Kd.N_alloc | apply Kd.N_drewN | apply Kd.N_drew)); exact HO_17.out) hg hat); replace HB := Aside0.mk hb; have HO1164 := Aside0.mk ho; clear HO1161; clear ho hb hg hat; obtain ⟨Ao25, co25, eo25⟩ := Kd.R_slice HO1164.out; subst eo25) | ((with_reducible refine gate_builtin (b := .append) (xs := #[.tmp 32, .tmp 39]) rfl ?_); at_builtin; refine Kd.N_append (Kd.slice 3 (Kd.int .i64)) (w0 := w) w.heap.size rfl (.tmp 32) (.tmp 39) 28 23 (.slice none 0 0) 24 rfl Try.underlying28 info23 rfl (by decide) (by omega) u5 x5_3 y1162 [.slice Ao25 y1162.length co25] (fun k_ => (w.heap.size ≤ k_) ∧ some k_ ≠ (.slice (some ad1154) x3_1.length co10 : Value).ownBlock) (fun k_ => ((fun k_ => (w.heap.size ≤ k_) ∧ some k_ ≠ (.slice (some ad1154) x3_1.length co10 : Value).ownBlock)) k_ ∧ some k_ ≠ (u5 : Value).ownBlock) rfl rfl ?aP (fun _ hk => hk) ?aF ?aO ?aB ?aS ?aL ?_; (case aP => exact (Kd.FK_slice_mk (Kd.R_reads' (Kd.R_mono (ok' := (fun k_ => ((fun k_ => (w.heap.size ≤ k_) ∧ some k_ ≠ (.slice (some ad1154) x3_1.length co10 : Value).ownBlock)) k_ ∧ some k_ ≠ (u5 : Value).ownBlock)) (Kd.R_apart' (Kd.R_apart' (HO1164.out) (Kd.N_typed HO_17.out) (by decide)) (Kd.N_typed HO_5.out) (by decide)) (fun k_ hk => ⟨⟨hk.1.1, hk.1.2⟩, hk.2⟩))).2.1 (Kd.R_F (Kd.R_mono (ok' := (fun k_ => ((fun k_ => (w.heap.size ≤ k_) ∧ some k_ ≠ (.slice (some ad1154) x3_1.length co10 : Value).ownBlock)) k_ ∧ some k_ ≠ (u5 : Value).ownBlock)) (Kd.R_apart' (Kd.R_apart' (HO1164.out) (Kd.N_typed HO_17.out) (by decide)) (Kd.N_typed HO_5.out) (by decide)) (fun k_ hk => ⟨⟨hk.1.1, hk.1.2⟩, hk.2⟩))))); (case aB => exact hB_); (case aF => exact (fun k_ hk => ⟨(Nat.le_trans (below_size hB_) hk), Kd.fresh' (Kd.N_lt (by (with_reducible repeat (first | apply Kd.N_alloc | apply Kd.N_drewN | apply Kd.N_drew)); exact HO_17.out)) k_ hk⟩)); (case aO => exact (by (with_reducible repeat (first | apply Kd.N_alloc | apply Kd.N_drewN | apply Kd.N_drew)); exact Kd.N_mono HO_5.out (fun _ hk => ⟨hk.1.1, hk.1.2⟩))); (case aS => exact (below_size hB_)); (case aL => have := LMc19.out; omega); intro v1166 w24 ho hb hg hat; rw [← Ny1165.out] at ho; replace HO_7 := Aside0.mk (Kd.V_afterv (ok := (fun k_ => (w.heap.size ≤ k_) ∧ some k_ ≠ (.slice (some ad1154) x3_1.length co10 : Value).ownBlock ∧ some k_ ≠ (.slice Ao25 y1162.length co25 : Value).ownBlock)) (by (with_reducible repeat (first | apply Kd.V_alloc | apply Kd.V_drewN | apply Kd.V_drew)); exact Kd.V_mono HO_7.out (fun _ hk => ⟨⟨hk.1.1, ⟨hk.1.2.2, hk.2⟩⟩, hk.1.2.1⟩)) hg hat); replace HO_17 := Aside0.mk (Kd.N_afterv (ok := (fun k_ => (w.heap.size ≤ k_) ∧ some k_ ≠ (.slice Ao25 y1162.length co25 : Value).ownBlock)) (by (with_reducible repeat (first | apply Kd.N_alloc | apply Kd.N_drewN | apply Kd.N_drew)); exact Kd.N_mono HO_17.out (fun _ hk => ⟨⟨hk.1.1, hk.2⟩, hk.1.2⟩)) hg hat); replace HB := Aside0.mk hb; have HO1167 := Aside0.mk ho; clear HO_5 HO1164; clear ho hb hg hat))
                      go_roundg k3
                      case measure => have := HK1.out; have := HK2.out; have := HK3.out; omega
                      case rel => exact ⟨(y1165), (wrap64 (x8_3 + 1)), qc_, H', ⟨by have := HK1.out; have := HK2.out; have := HK3.out; omega⟩, ⟨by (with_reducible repeat (first | apply Kd.N_alloc | apply Kd.N_drewN | apply Kd.N_drew)); exact HO1167.out⟩, ⟨by (with_reducible repeat (first | apply Kd.V_alloc | apply Kd.V_drewN | apply Kd.V_drew)); exact Kd.V_mono HO_7.out (fun _ hk => ⟨hk.1.1, ⟨hk.2, hk.1.2.1⟩⟩)⟩, ⟨by (with_reducible repeat (first | apply Kd.N_alloc | apply Kd.N_drewN | apply Kd.N_drew)); exact Kd.N_mono HO_17.out (fun _ hk => ⟨hk.1.1, hk.2⟩)⟩, ⟨hB_⟩⟩
                  · rw [if_neg c14] at H
                    have c14b0 := decide_eq_false c14
                    clear c14
                    have H' := Aside0.mk H
                    clear H
                    go_wp2
                    go_roundg k3
                    case measure => have := HK1.out; have := HK2.out; have := HK3.out; omega
                    case rel => exact ⟨(x5_3), (wrap64 (x19_2 + 1)), qc_, H', ⟨by have := HK1.out; have := HK2.out; have := HK3.out; omega⟩, ⟨by (with_reducible repeat (first | apply Kd.N_alloc | apply Kd.N_drewN | apply Kd.N_drew)); exact HO_5.out⟩, ⟨by (with_reducible repeat (first | apply Kd.N_alloc | apply Kd.N_drewN | apply Kd.N_drew)); exact HO_17.out⟩, ⟨hB_⟩⟩
            · rw [if_neg c11] at H
              have c11b0 := decide_eq_false c11
              clear c11
              have H' := Aside0.mk H
              clear H
              go_wp2
              go_roundg k2
              case measure => have := HK1.out; have := HK2.out; omega
              case rel => exact ⟨(x5_2), (wrap64 (x4_1 + 1)), qc_, H', ⟨by have := HK1.out; have := HK2.out; omega⟩, ⟨by (with_reducible repeat (first | apply Kd.N_alloc | apply Kd.N_drewN | apply Kd.N_drew)); exact Kd.N_mono HO_5.out (fun _ hk => hk.1)⟩, ⟨hB_⟩⟩
      · rw [if_neg c7] at H
        have c7b0 := decide_eq_false c7
        clear c7
        obtain rfl := Option.some.inj H
        go_wp2
        go_ret
        exact ⟨_, qb_, by (with_reducible repeat (first | apply Kd.N_alloc | apply Kd.N_drewN | apply Kd.N_drew)); exact HO_3.out, hB_⟩
end Go.Proofs.Ytoijcallajegfaa.A
end
section
namespace Go.Proofs.Ytoijcallajegfaa.A
open Go.RowKit Go.Proofs.YtoijcallajegfaaW.PrintWords Go.Proofs.YtoijcallajegfaaW.PrintLast Go.Proofs.YtoijcallajegfaaW.PrintMore
attribute [local go_sem] max2_int min2_int max_two min_two max_three min_three max_four min_four
set_option linter.unusedVariables false
set_option linter.unusedSimpArgs false
def spec_SameSurface.f (k : Nat) (l0_0 : List Int) (l0_1 : List Int) (l1_0 : List Int) (l1_1 : List Int) : Option (Bool) := (spec_SameList.f k l0_0 l1_0).bind fun t1046 => (if t1046 = true then ((spec_SameList.f k l0_1 l1_1).bind fun t1047 => (some t1047)) else (some false))
theorem spec_SameSurface.mono : ∀ a0 a1 a2 a3 k, LeO (spec_SameSurface.f k a0 a1 a2 a3) (spec_SameSurface.f (k + 1) a0 a1 a2 a3) := by
  intro a0 a1 a2 a3 k
  unfold spec_SameSurface.f
  repeat' first|exact spec_SameList.mono _ _ _|exact lo_|refine LeO.ite ?_ ?_|refine LeO.bind ?_ (fun _ => ?_)
set_option maxHeartbeats 8000000 in
set_option maxRecDepth 100000 in
theorem spec_SameSurface.calls (k : Nat) (A0_0 : Option Addr) (c0_0 : Nat) (l0_0 : List Int) (A0_1 : Option Addr) (c0_1 : Nat) (l0_1 : List Int) (A1_0 : Option Addr) (c1_0 : Nat) (l1_0 : List Int) (A1_1 : Option Addr) (c1_1 : Nat) (l1_1 : List Int) (r : Bool) (w : World) (hr0_0 : Kd.C (Kd.int .i64) w A0_0 l0_0.length l0_0) (hc0_0 : l0_0.length ≤ c0_0) (hr0_1 : Kd.C (Kd.int .i64) w A0_1 l0_1.length l0_1) (hc0_1 : l0_1.length ≤ c0_1) (hr1_0 : Kd.C (Kd.int .i64) w A1_0 l1_0.length l1_0) (hc1_0 : l1_0.length ≤ c1_0) (hr1_1 : Kd.C (Kd.int .i64) w A1_1 l1_1.length l1_1) (hc1_1 : l1_1.length ≤ c1_1) (h : spec_SameSurface.f k l0_0 l0_1 l1_0 l1_1 = some r) :
    Calls Try.prog 125 #[.agg #[.slice A0_0 l0_0.length c0_0, .slice A0_1 l0_1.length c0_1], .agg #[.slice A1_0 l1_0.length c1_0, .slice A1_1 l1_1.length c1_1]] w fun e w' => e = .returned (.bool r) ∧ Below w.heap.size w w' := by
  have hu33 := Try.underlying33
  have HR0_0 := Aside0.mk hr0_0
  have HC0_0 := Aside0.mk hc0_0
  clear hr0_0 hc0_0
  have HR0_1 := Aside0.mk hr0_1
  have HC0_1 := Aside0.mk hc0_1
  clear hr0_1 hc0_1
  have HR1_0 := Aside0.mk hr1_0
  have HC1_0 := Aside0.mk hc1_0
  clear hr1_0 hc1_0
  have HR1_1 := Aside0.mk hr1_1
  have HC1_1 := Aside0.mk hc1_1
  clear hr1_1 hc1_1
  have HB := Aside0.mk (Below.refl w.heap.size w)
  have H := h
  unfold spec_SameSurface.f at H
  clear h
  obtain ⟨t1046, A3, H⟩ := bi_ H
  by_cases c4 : t1046 = true
  · subst c4
    rw [if_pos rfl] at H
    obtain ⟨t1047, A5, H⟩ := bi_ H
    obtain rfl := Option.some.inj H
    go_enter Try.func125, Try.ntmps125
    go_wp2_with (first | ((with_reducible refine gate_dst (N := 2) rfl ?_); refine bx_ 2 #[.slice A0_0 l0_0.length c0_0, .slice A0_1 l0_1.length c0_1] 33 ?_; intro gb1044 hg w6 hbox hb; have BK1044 := Aside0.mk hbox; have GW1044 := gw_ w hg; have GE1044 := GW1044; replace HB := b1_ hb; clear hb hbox hg) | ((with_reducible refine gate_dst (N := 3) rfl ?_); refine bx_ 3 #[.slice A1_0 l1_0.length c1_0, .slice A1_1 l1_1.length c1_1] 33 ?_; intro gb1045 hg w7 hbox hb; have BK1045 := Aside0.mk hbox; have GW1045 := gw_ w hg; have GE1045 := GW1045; replace HB := b1_ hb; have NB1044_1045 := gN_ BK1044 hg; have NB1045_1044 := gP_ BK1044 hg; replace BK1044 := bb_ BK1044 hb; clear hb hbox hg; have hnb8 := NB1044_1045.out; have hnc8 := NB1045_1044.out; obtain ⟨hcz9_0, hcz9_1, hfz9_0, hfz9_1⟩ := c2_ BK1044; obtain ⟨hcz10_0, hcz10_1, hfz10_0, hfz10_1⟩ := c2_ BK1045) | ((with_reducible refine gate_callee (f := 134) rfl ?_); refine gL_ (some 9) Try.func134 #[.slice A0_0 l0_0.length c0_0, .slice A1_0 l1_0.length c1_0] rfl qa_ ?_; (with_reducible refine (spec_SameList.calls k _ _ l0_0 _ _ l1_0 true _ (cb_ HR0_0) HC0_0.out (cb_ HR1_0) HC1_0.out A3.out).mono ?_); rintro e w' ⟨rfl, ⟨nd, rfl⟩⟩; refine ⟨_, rfl, ?_⟩) | (go_at_call 134; (with_reducible refine (spec_SameList.calls k _ _ l0_1 _ _ l1_1 t1047 _ (cw_ (Kd.C_below HR0_1.out hB_)) HC0_1.out (cw_ (Kd.C_below HR1_1.out hB_)) HC1_1.out A5.out).mono ?_); rintro e w' ⟨rfl, ⟨nd, rfl⟩⟩))
    go_ret
    exact ⟨qb_, hB_⟩
  · replace c4 := Bool.eq_false_iff.mpr c4
    subst c4
    have H1 : (some false) = some r := by rw [if_neg (show ¬ (false = true) by decide)] at H; exact H
    clear H
    have H := H1
    clear H1
    obtain rfl := Option.some.inj H
    go_enter Try.func125, Try.ntmps125
    go_wp2_with (first | ((with_reducible refine gate_dst (N := 2) rfl ?_); refine bx_ 2 #[.slice A0_0 l0_0.length c0_0, .slice A0_1 l0_1.length c0_1] 33 ?_; intro gb1044 hg w11 hbox hb; have BK1044 := Aside0.mk hbox; have GW1044 := gw_ w hg; have GE1044 := GW1044; replace HB := b1_ hb; clear hb hbox hg) | ((with_reducible refine gate_dst (N := 3) rfl ?_); refine bx_ 3 #[.slice A1_0 l1_0.length c1_0, .slice A1_1 l1_1.length c1_1] 33 ?_; intro gb1045 hg w12 hbox hb; have BK1045 := Aside0.mk hbox; have GW1045 := gw_ w hg; have GE1045 := GW1045; replace HB := b1_ hb; have NB1044_1045 := gN_ BK1044 hg; have NB1045_1044 := gP_ BK1044 hg; replace BK1044 := bb_ BK1044 hb; clear hb hbox hg; have hnb13 := NB1044_1045.out; have hnc13 := NB1045_1044.out; obtain ⟨hcz14_0, hcz14_1, hfz14_0, hfz14_1⟩ := c2_ BK1044; obtain ⟨hcz15_0, hcz15_1, hfz15_0, hfz15_1⟩ := c2_ BK1045) | ((with_reducible refine gate_callee (f := 134) rfl ?_); refine gL_ (some 9) Try.func134 #[.slice A0_0 l0_0.length c0_0, .slice A1_0 l1_0.length c1_0] rfl qa_ ?_; (with_reducible refine (spec_SameList.calls k _ _ l0_0 _ _ l1_0 false _ (cb_ HR0_0) HC0_0.out (cb_ HR1_0) HC1_0.out A3.out).mono ?_); rintro e w' ⟨rfl, ⟨nd, rfl⟩⟩; refine ⟨_, rfl, ?_⟩))
    go_ret
    exact ⟨qb_, hB_⟩
end Go.Proofs.Ytoijcallajegfaa.A
end
section
namespace Go.Proofs.Ytoijcallajegfaa.A
open Go.RowKit Go.Proofs.YtoijcallajegfaaW.PrintWords Go.Proofs.YtoijcallajegfaaW.PrintLast Go.Proofs.YtoijcallajegfaaW.PrintMore
attribute [local go_sem] max2_int min2_int max_two min_two max_three min_three max_four min_four
set_option linter.unusedVariables false
set_option linter.unusedSimpArgs false
def spec_l10Insert.l0 : Nat → List (S33) → Bool → List (S33) → Int → Int → List Int → List Int → Option ((List (S33)))
  | 0, _, _, _, _, _, _, _ => none
  | k + 1, x5, x6, x10, x11, x12, x1169000, x1169001 => if x12 < x11 then (if 0 ≤ x12 then (if x12 < (x10.length : Int) then ((spec_SameSurface.f k ((rd_T33 x10 x12).f0) ((rd_T33 x10 x12).f1) x1169000 x1169001).bind fun t1177 => (if t1177 = true then (if x5.length < 2932031007402 then (spec_l10Insert.l0 k (x5 ++ [(⟨(rd_T33 x10 x12).f0, (rd_T33 x10 x12).f1⟩ : S33)]) true x10 x11 (wrap64 (x12 + 1)) x1169000 x1169001) else (none)) else (if x6 = true then (if x5.length < 2932031007402 then (spec_l10Insert.l0 k (x5 ++ [(⟨(rd_T33 x10 x12).f0, (rd_T33 x10 x12).f1⟩ : S33)]) x6 x10 x11 (wrap64 (x12 + 1)) x1169000 x1169001) else (none)) else ((spec_l03Before.f k x1169000 x1169001 ((rd_T33 x10 x12).f0) ((rd_T33 x10 x12).f1)).bind fun t1184 => (if t1184 = true then (if x5.length < 2932031007402 then ((some (x5 ++ [(⟨x1169000, x1169001⟩ : S33)] : List (S33))).bind fun y1185 => (if y1185.length < 2932031007402 then (spec_l10Insert.l0 k (y1185 ++ [(⟨(rd_T33 x10 x12).f0, (rd_T33 x10 x12).f1⟩ : S33)]) true x10 x11 (wrap64 (x12 + 1)) x1169000 x1169001) else (none))) else (none)) else (if x5.length < 2932031007402 then (spec_l10Insert.l0 k (x5 ++ [(⟨(rd_T33 x10 x12).f0, (rd_T33 x10 x12).f1⟩ : S33)]) x6 x10 x11 (wrap64 (x12 + 1)) x1169000 x1169001) else (none))))))) else (none)) else (none)) else (if x6 = true then (some x5) else (if x5.length < 2932031007402 then (some (x5 ++ [(⟨x1169000, x1169001⟩ : S33)])) else (none)))
def spec_l10Insert.f (k : Nat) (l0 : List (S33)) (l1_0 : List Int) (l1_1 : List Int) : Option ((List (S33))) := spec_l10Insert.l0 k (([] : List (S33))) false l0 (l0.length : Int) 0 l1_0 l1_1
theorem spec_l10Insert.mono_l : ∀ k, (∀ y0 y1 y2 y3 y4 y5 y6, LeO (spec_l10Insert.l0 k y0 y1 y2 y3 y4 y5 y6) (spec_l10Insert.l0 (k + 1) y0 y1 y2 y3 y4 y5 y6))
  | 0 => fun _ _ _ _ _ _ _ r h => by simp [spec_l10Insert.l0] at h
  | k + 1 => by
    have ih0 := spec_l10Insert.mono_l k
    · intro y0 y1 y2 y3 y4 y5 y6
      unfold spec_l10Insert.l0
      repeat' first|exact ih0 _ _ _ _ _ _ _|exact spec_SameSurface.mono _ _ _ _ _|exact spec_l03Before.mono _ _ _ _ _|exact lo_|refine LeO.ite ?_ ?_|refine LeO.bind ?_ (fun _ => ?_)
theorem spec_l10Insert.mono : ∀ a0 a1 a2 k, LeO (spec_l10Insert.f k a0 a1 a2) (spec_l10Insert.f (k + 1) a0 a1 a2) := by
  intro a0 a1 a2 k
  have ih0 := spec_l10Insert.mono_l k
  unfold spec_l10Insert.f
  repeat' first|exact ih0 _ _ _ _ _ _ _|exact spec_SameSurface.mono _ _ _ _ _|exact spec_l03Before.mono _ _ _ _ _|exact lo_|refine LeO.ite ?_ ?_|refine LeO.bind ?_ (fun _ => ?_)
set_option maxHeartbeats 8000000 in
set_option maxRecDepth 100000 in
theorem spec_l10Insert.calls (k : Nat) (P0_ : Nat → Prop) (A0 : Option Addr) (c0 : Nat) (l0 : List (S33)) (P1_0_ : Nat → Prop) (A1_0 : Option Addr) (c1_0 : Nat) (l1_0 : List Int) (P1_1_ : Nat → Prop) (A1_1 : Option Addr) (c1_1 : Nat) (l1_1 : List Int) (r : List (S33)) (w : World) (hs0 : Kd.V k33 33 w w.heap.size (fun k_ => P0_ k_) (.slice A0 l0.length c0) l0) (hs1_0 : Kd.V (Kd.int .i64) 3 w w.heap.size (fun k_ => P1_0_ k_) (.slice A1_0 l1_0.length c1_0) l1_0) (hs1_1 : Kd.V (Kd.int .i64) 3 w w.heap.size (fun k_ => P1_1_ k_) (.slice A1_1 l1_1.length c1_1) l1_1) (h : spec_l10Insert.f k l0 l1_0 l1_1 = some r) :
    Calls Try.prog 86 #[.slice A0 l0.length c0, .agg #[.slice A1_0 l1_0.length c1_0, .slice A1_1 l1_1.length c1_1]] w fun e w' => ∃ v0_ : Value, e = .returned (v0_) ∧ Kd.N k33 33 w' w.heap.size (fun k_ => ((P0_ k_ ∨ P1_0_ k_ ∨ P1_1_ k_) ∨ w.heap.size ≤ k_)) v0_ r ∧ Below w.heap.size w w' := by
  have hu33 := Try.underlying33
  have HO0 := Aside0.mk (show Kd.V k33 33 w w.heap.size (fun k_ => ((P0_ k_ ∨ P1_0_ k_ ∨ P1_1_ k_) ∨ w.heap.size ≤ k_)) (.slice A0 l0.length c0) l0 from Kd.V_mono hs0 (fun k_ hk => .inl (.inl hk)))
  have HO1_0 := Aside0.mk (show Kd.V (Kd.int .i64) 3 w w.heap.size (fun k_ => ((P0_ k_ ∨ P1_0_ k_ ∨ P1_1_ k_) ∨ w.heap.size ≤ k_)) (.slice A1_0 l1_0.length c1_0) l1_0 from Kd.V_mono hs1_0 (fun k_ hk => .inl (.inr (.inl hk))))
  have HO1_1 := Aside0.mk (show Kd.V (Kd.int .i64) 3 w w.heap.size (fun k_ => ((P0_ k_ ∨ P1_0_ k_ ∨ P1_1_ k_) ∨ w.heap.size ≤ k_)) (.slice A1_1 l1_1.length c1_1) l1_1 from Kd.V_mono hs1_1 (fun k_ hk => .inl (.inr (.inr hk))))
  have HB := Aside0.mk (Below.refl w.heap.size w)
  have H := h
  unfold spec_l10Insert.f at H
  clear h
  obtain ⟨y1169, hy1169⟩ : ∃ y_ : List (S33), y_ = (([] : List (S33))) := ⟨_, rfl⟩
  replace H : (spec_l10Insert.l0 k y1169 false l0 (l0.length : Int) 0 l1_0 l1_1) = some r := by first | (rw [hy1169]; exact H) | exact H
  have Ny1169 := Aside0.mk hy1169
  clear hy1169
  have H' := Aside0.mk H
  clear H
  go_enter Try.func86, Try.ntmps86
  go_wp2_with (first | ((with_reducible refine gate_dst (N := 3) rfl ?_); refine bx_ 3 #[.slice A1_0 l1_0.length c1_0, .slice A1_1 l1_1.length c1_1] 33 ?_; intro gb1168 hg w3 hbox hb; replace HO0 := Aside0.mk (Kd.V_below (Kd.V_elderB (by (with_reducible repeat (first | apply Kd.V_alloc | apply Kd.V_drewN | apply Kd.V_drew)); exact HO0.out) gb1168 (Nat.le_of_eq hg.symm)) hb); replace HO1_0 := Aside0.mk (Kd.V_below (Kd.V_elderB (by (with_reducible repeat (first | apply Kd.V_alloc | apply Kd.V_drewN | apply Kd.V_drew)); exact HO1_0.out) gb1168 (Nat.le_of_eq hg.symm)) hb); replace HO1_1 := Aside0.mk (Kd.V_below (Kd.V_elderB (by (with_reducible repeat (first | apply Kd.V_alloc | apply Kd.V_drewN | apply Kd.V_drew)); exact HO1_1.out) gb1168 (Nat.le_of_eq hg.symm)) hb); have BK1168 := Aside0.mk hbox; have GW1168 := gw_ w hg; have GE1168 := GW1168; replace HB := b1_ hb; clear hb hbox hg) | ((with_reducible refine gate_dst (N := 9) rfl ?_); refine Kd.N_lit k33 _ 33 ?hg (N' := 9) ?hd (xs := ([] : List (S33))) (inner := []) (ok := (fun k_ => ((P0_ k_ ∨ P1_0_ k_ ∨ P1_1_ k_) ∨ w.heap.size ≤ k_) ∧ k_ ≠ gb1168)) (okp := (fun k_ => ((P0_ k_ ∨ P1_0_ k_ ∨ P1_1_ k_) ∨ w.heap.size ≤ k_) ∧ k_ ≠ gb1168)) ?hr ?hp (fun _ hk => hk) ((show ∀ k_, w3.heap.size ≤ k_ → (fun k_ => ((P0_ k_ ∨ P1_0_ k_ ∨ P1_1_ k_) ∨ w.heap.size ≤ k_) ∧ k_ ≠ gb1168) k_ from fun k_ hk => ⟨(.inr (Nat.le_trans (below_size hB_) hk)), Kd.freshB (kk_ BK1168) k_ hk⟩) _ (Nat.le_refl _)) (Below.refl _ _) (Nat.le_refl _) (by simp) ?_; (case hd => rfl); (case hg => rfl); (case hr => first | (go_simp; done) | (go_simp; rfl)); (case hp => exact (Reps.none _ _)); intro v1170 w4 ho5 hb hg_ hnew_; clear hg_ hnew_; (first | rw [← Ny1169.out] at ho5 | (simp only [Int.reduceToNat] at ho5; rw [← Ny1169.out] at ho5)); replace HO0 := Aside0.mk (Kd.V_elder' (by (with_reducible repeat (first | apply Kd.V_alloc | apply Kd.V_drewN | apply Kd.V_drew)); exact HO0.out) (Kd.N_base ho5) hb); replace HO1_0 := Aside0.mk (Kd.V_elder' (by (with_reducible repeat (first | apply Kd.V_alloc | apply Kd.V_drewN | apply Kd.V_drew)); exact HO1_0.out) (Kd.N_base ho5) hb); replace HO1_1 := Aside0.mk (Kd.V_elder' (by (with_reducible repeat (first | apply Kd.V_alloc | apply Kd.V_drewN | apply Kd.V_drew)); exact HO1_1.out) (Kd.N_base ho5) hb); have HO1171 := Aside0.mk (Kd.N_lower ho5 (below_size hB_)); replace BK1168 := bb_ BK1168 hb; replace HB := b1_ hb; clear hb ho5))
  go_loopg [5, 6, 12] k (fun kq v5 v6 v12 w' => ∃ (x5_1 : List (S33)) (x6_1 : Bool) (x12_1 : Int), v6 = .bool x6_1 ∧ v12 = .int .i64 x12_1 ∧ Aside0 (spec_l10Insert.l0 kq x5_1 x6_1 l0 (l0.length : Int) x12_1 l1_0 l1_1 = some r) ∧ Aside0 (kq ≤ k) ∧ Aside0 (Kd.N k33 33 w' w.heap.size (fun k_ => ((P0_ k_ ∨ P1_0_ k_ ∨ P1_1_ k_) ∨ w.heap.size ≤ k_) ∧ k_ ≠ gb1168) v5 x5_1) ∧ Aside0 (Kd.V k33 33 w' w.heap.size (fun k_ => ((P0_ k_ ∨ P1_0_ k_ ∨ P1_1_ k_) ∨ w.heap.size ≤ k_) ∧ some k_ ≠ (v5 : Value).ownBlock ∧ k_ ≠ gb1168) (.slice A0 l0.length c0) l0) ∧ Aside0 (Kd.V (Kd.int .i64) 3 w' w.heap.size (fun k_ => ((P0_ k_ ∨ P1_0_ k_ ∨ P1_1_ k_) ∨ w.heap.size ≤ k_) ∧ some k_ ≠ (v5 : Value).ownBlock ∧ k_ ≠ gb1168) (.slice A1_0 l1_0.length c1_0) l1_0) ∧ Aside0 (Kd.V (Kd.int .i64) 3 w' w.heap.size (fun k_ => ((P0_ k_ ∨ P1_0_ k_ ∨ P1_1_ k_) ∨ w.heap.size ≤ k_) ∧ some k_ ≠ (v5 : Value).ownBlock ∧ k_ ≠ gb1168) (.slice A1_1 l1_1.length c1_1) l1_1) ∧ Aside0 (w'.heap[gb1168]? = some (.cells #[(.slice A1_0 l1_0.length c1_0), (.slice A1_1 l1_1.length c1_1)] 33 (0, 0))) ∧ Aside0 (Below w.heap.size w w'))
  case atStart => exact ⟨(y1169), (false), (0), qc_, qc_, H', ⟨Nat.le_refl _⟩, ⟨by (with_reducible repeat (first | apply Kd.N_alloc | apply Kd.N_drewN | apply Kd.N_drew)); exact HO1171.out⟩, ⟨by (with_reducible repeat (first | apply Kd.V_alloc | apply Kd.V_drewN | apply Kd.V_drew)); exact Kd.V_mono HO0.out (fun _ hk => ⟨hk.1.1, ⟨hk.2, hk.1.2⟩⟩)⟩, ⟨by (with_reducible repeat (first | apply Kd.V_alloc | apply Kd.V_drewN | apply Kd.V_drew)); exact Kd.V_mono HO1_0.out (fun _ hk => ⟨hk.1.1, ⟨hk.2, hk.1.2⟩⟩)⟩, ⟨by (with_reducible repeat (first | apply Kd.V_alloc | apply Kd.V_drewN | apply Kd.V_drew)); exact Kd.V_mono HO1_1.out (fun _ hk => ⟨hk.1.1, ⟨hk.2, hk.1.2⟩⟩)⟩, ⟨(kk_ BK1168)⟩, ⟨hB_⟩⟩
  case round =>
    clear H'
    obtain ⟨x5_1, x6_1, x12_1, rfl, rfl, HA, HK1, HO_5, HO_10, HO_1169000, HO_1169001, BK1168, HB⟩ := hrel
    cases gk with
    | zero => exact absurd HA.out (by simp [spec_l10Insert.l0])
    | succ k1 =>
      have H := HA.out
      clear HA
      simp only [spec_l10Insert.l0] at H
      by_cases c6 : x12_1 < (l0.length : Int)
      · rw [if_pos c6] at H
        have c6b0 := decide_eq_true c6
        clear c6
        have c7 := cp_ H
        replace H := ca_ H
        have c7b0 := decide_eq_true c7
        clear c7
        have c8 := cp_ H
        replace H := ca_ H
        have c8b0 := decide_eq_true c8
        clear c8
        obtain ⟨t1177, A9, H⟩ := bi_ H
        by_cases c10 : t1177 = true
        · subst c10
          rw [if_pos rfl] at H
          have c11 := cp_ H
          replace H := ca_ H
          have LMc11 := Aside0.mk c11
          clear c11
          obtain ⟨y1178, hy1178⟩ : ∃ y_ : List (S33), y_ = (x5_1 ++ [(⟨(rd_T33 l0 x12_1).f0, (rd_T33 l0 x12_1).f1⟩ : S33)]) := ⟨_, rfl⟩
          replace H : (spec_l10Insert.l0 k1 y1178 true l0 (l0.length : Int) (wrap64 (x12_1 + 1)) l1_0 l1_1) = some r := by first | (rw [hy1178]; exact H) | exact H
          have Ny1178 := Aside0.mk hy1178
          clear hy1178
          have H' := Aside0.mk H
          clear H
          have p1175 : 0 ≤ (x12_1 : Int) := of_decide_eq_true qe_
          have q1175 : x12_1 < (l0.length : Int) := of_decide_eq_true qe_
          obtain ⟨ad1175, A1175_0, c1175_0, A1175_1, c1175_1, e1175, hx1175_0, hx1175_1, hl1175_0, hi1175_0, hl1175_1, hi1175_1⟩ := at_T33 (Kd.V_reads' HO_10.out).2.2 x12_1 p1175 q1175
          cases e1175
          obtain ⟨ce1175, hce1175, hMe1175, hcc1175⟩ := Kd.V_get HO_10.out z33 x12_1 p1175 (by first | exact q1175 | exact of_decide_eq_true qe_ | (have e_ := (Kd.V_reads' HO_10.out).1; omega))
          obtain ⟨ua1175_0, uc1175_0, ua1175_1, uc1175_1, rfl, ul1175_0, ge1175_0, ul1175_1, ge1175_1⟩ := k33_openF hMe1175
          have hv1175_0 := hcc1175 0 _ rfl
          rw [Nat.add_zero] at hv1175_0
          replace hv1175_0 := Option.some.inj (hv1175_0.symm.trans hx1175_0)
          injection hv1175_0 with hva_ hvn_ hvc_
          rw [hva_] at ge1175_0
          rw [hvc_] at ul1175_0
          have HL1175_0 := Aside0.mk (show Kd.V (Kd.int .i64) 3 _ w.heap.size _ _ ((rd_T33 l0 x12_1).f0) from Kd.V_mk ul1175_0 ge1175_0)
          clear hva_ hvn_ hvc_ ge1175_0 ul1175_0
          have hv1175_1 := hcc1175 1 _ rfl
          rw [add_field _ _ 1 (by omega)] at hv1175_1
          replace hv1175_1 := Option.some.inj (hv1175_1.symm.trans hx1175_1)
          injection hv1175_1 with hva_ hvn_ hvc_
          rw [hva_] at ge1175_1
          rw [hvc_] at ul1175_1
          have HL1175_1 := Aside0.mk (show Kd.V (Kd.int .i64) 3 _ w.heap.size _ _ ((rd_T33 l0 x12_1).f1) from Kd.V_mk ul1175_1 ge1175_1)
          clear hva_ hvn_ hvc_ ge1175_1 ul1175_1
          clear hcc1175 hce1175
          have HR1175_0 := Aside0.mk hi1175_0
          have HC1175_0 := Aside0.mk hl1175_0
          clear hi1175_0 hl1175_0
          have HR1175_1 := Aside0.mk hi1175_1
          have HC1175_1 := Aside0.mk hl1175_1
          clear hi1175_1 hl1175_1
          replace p1175 := eq_true p1175
          replace q1175 := eq_true q1175
          go_wp2_with (first | ((with_reducible refine gate_dst (N := 8) rfl ?_); refine bx_ 8 #[.slice none 0 0, .slice none 0 0] 33 ?_; intro gb1176 hg w12 hbox hb; replace HO_5 := Aside0.mk (Kd.N_below (Kd.N_elderB (by (with_reducible repeat (first | apply Kd.N_alloc | apply Kd.N_drewN | apply Kd.N_drew)); exact HO_5.out) gb1176 (Nat.le_of_eq hg.symm)) hb); replace HO_10 := Aside0.mk (Kd.V_below (Kd.V_elderB (by (with_reducible repeat (first | apply Kd.V_alloc | apply Kd.V_drewN | apply Kd.V_drew)); exact HO_10.out) gb1176 (Nat.le_of_eq hg.symm)) hb); replace HO_1169000 := Aside0.mk (Kd.V_below (Kd.V_elderB (by (with_reducible repeat (first | apply Kd.V_alloc | apply Kd.V_drewN | apply Kd.V_drew)); exact HO_1169000.out) gb1176 (Nat.le_of_eq hg.symm)) hb); replace HO_1169001 := Aside0.mk (Kd.V_below (Kd.V_elderB (by (with_reducible repeat (first | apply Kd.V_alloc | apply Kd.V_drewN | apply Kd.V_drew)); exact HO_1169001.out) gb1176 (Nat.le_of_eq hg.symm)) hb); replace HL1175_0 := Aside0.mk (Kd.V_below (Kd.V_elderB (by (with_reducible repeat (first | apply Kd.V_alloc | apply Kd.V_drewN | apply Kd.V_drew)); exact HL1175_0.out) gb1176 (Nat.le_of_eq hg.symm)) hb); replace HL1175_1 := Aside0.mk (Kd.V_below (Kd.V_elderB (by (with_reducible repeat (first | apply Kd.V_alloc | apply Kd.V_drewN | apply Kd.V_drew)); exact HL1175_1.out) gb1176 (Nat.le_of_eq hg.symm)) hb); replace HR1175_0 := Aside0.mk (Kd.C_below (by repeat (first | (with_reducible exact HR1175_0.out) | (with_reducible refine Kd.C_alloc ?_ _) | (with_reducible refine Kd.C_drewN ?_ _) | (with_reducible refine Kd.C_drew ?_) | exact HR1175_0.out)) hb); replace HR1175_1 := Aside0.mk (Kd.C_below (by repeat (first | (with_reducible exact HR1175_1.out) | (with_reducible refine Kd.C_alloc ?_ _) | (with_reducible refine Kd.C_drewN ?_ _) | (with_reducible refine Kd.C_drew ?_) | exact HR1175_1.out)) hb); have BK1176 := Aside0.mk hbox; have GW1176 := gw_ w hg; have GE1176 := GW1176; replace HB := b1_ hb; have NB1168_1176 := gN_ BK1168 hg; have NB1176_1168 := gP_ BK1168 hg; replace BK1168 := bb_ BK1168 hb; clear hb hbox hg; have hnb13 := NB1176_1168.out; have hnc13 := NB1168_1176.out; obtain ⟨hcz14_0, hcz14_1, hfz14_0, hfz14_1⟩ := c2_ BK1176; obtain ⟨hcz15_0, hcz15_1, hfz15_0, hfz15_1⟩ := c2_ BK1168) | ((with_reducible refine gate_callee (f := 125) rfl ?_); refine gL_ (some 18) Try.func125 #[.agg #[.slice A1175_0 ((rd_T33 l0 x12_1).f0).length c1175_0, .slice A1175_1 ((rd_T33 l0 x12_1).f1).length c1175_1], .agg #[.slice A1_0 l1_0.length c1_0, .slice A1_1 l1_1.length c1_1]] rfl qa_ ?_; (with_reducible refine (spec_SameSurface.calls k1 _ _ ((rd_T33 l0 x12_1).f0) _ _ ((rd_T33 l0 x12_1).f1) _ _ l1_0 _ _ l1_1 true _ ?side1 ?side2 ?side3 ?side4 ?side5 ?side6 ?side7 ?side8 A9.out).mono ?_); (case side1 => repeat (first | exact ((Kd.V_reads' (by (with_reducible repeat (first | apply Kd.V_alloc | apply Kd.V_drewN | apply Kd.V_drew)); exact (Kd.V_mono (Kd.V_far (p := ⟨gb1176, 1, none⟩) (Kd.V_far (p := ⟨gb1176, 0, none⟩) (Kd.V_mono HL1175_0.out (fun k_ hk => (⟨hk, hk.2⟩ : _ ∧ k_ ≠ gb1176))) (fun _ hk => hk.2) (.slice A1175_0 ((rd_T33 l0 x12_1).f0).length c1175_0)) (fun _ hk => hk.2) (.slice A1175_1 ((rd_T33 l0 x12_1).f1).length c1175_1)) (fun _ h_ => h_.1)))).2.2) | (with_reducible refine Kd.C_alloc ?_ _) | (with_reducible refine Kd.C_drewN ?_ _) | (with_reducible refine Kd.C_drew ?_))); (case side2 => exact HC1175_0.out); (case side3 => repeat (first | exact ((Kd.V_reads' (by (with_reducible repeat (first | apply Kd.V_alloc | apply Kd.V_drewN | apply Kd.V_drew)); exact (Kd.V_mono (Kd.V_far (p := ⟨gb1176, 1, none⟩) (Kd.V_far (p := ⟨gb1176, 0, none⟩) (Kd.V_mono HL1175_1.out (fun k_ hk => (⟨hk, hk.2⟩ : _ ∧ k_ ≠ gb1176))) (fun _ hk => hk.2) (.slice A1175_0 ((rd_T33 l0 x12_1).f0).length c1175_0)) (fun _ hk => hk.2) (.slice A1175_1 ((rd_T33 l0 x12_1).f1).length c1175_1)) (fun _ h_ => h_.1)))).2.2) | (with_reducible refine Kd.C_alloc ?_ _) | (with_reducible refine Kd.C_drewN ?_ _) | (with_reducible refine Kd.C_drew ?_))); (case side4 => exact HC1175_1.out); (case side5 => refine (Kd.V_reads' (e := 3) (base := w.heap.size) (ok := fun k_ => ((((P0_ k_ ∨ P1_0_ k_ ∨ P1_1_ k_) ∨ w.heap.size ≤ k_) ∧ (some k_ ≠ (u5 : Value).ownBlock ∧ k_ ≠ gb1168)) ∧ k_ ≠ gb1176)) (n := l1_0.length) (c := c1_0) ?_).2.2; exact (by (with_reducible repeat (first | apply Kd.V_alloc | apply Kd.V_drewN | apply Kd.V_drew)); exact (Kd.V_mono (Kd.V_far (p := ⟨gb1176, 1, none⟩) (Kd.V_far (p := ⟨gb1176, 0, none⟩) (Kd.V_mono HO_1169000.out (fun k_ hk => (⟨hk, hk.2⟩ : _ ∧ k_ ≠ gb1176))) (fun _ hk => hk.2) (.slice A1175_0 ((rd_T33 l0 x12_1).f0).length c1175_0)) (fun _ hk => hk.2) (.slice A1175_1 ((rd_T33 l0 x12_1).f1).length c1175_1)) (fun _ h_ => h_.1)))); (case side6 => exact (Kd.V_reads' HO_1169000.out).2.1); (case side7 => refine (Kd.V_reads' (e := 3) (base := w.heap.size) (ok := fun k_ => ((((P0_ k_ ∨ P1_0_ k_ ∨ P1_1_ k_) ∨ w.heap.size ≤ k_) ∧ (some k_ ≠ (u5 : Value).ownBlock ∧ k_ ≠ gb1168)) ∧ k_ ≠ gb1176)) (n := l1_1.length) (c := c1_1) ?_).2.2; exact (by (with_reducible repeat (first | apply Kd.V_alloc | apply Kd.V_drewN | apply Kd.V_drew)); exact (Kd.V_mono (Kd.V_far (p := ⟨gb1176, 1, none⟩) (Kd.V_far (p := ⟨gb1176, 0, none⟩) (Kd.V_mono HO_1169001.out (fun k_ hk => (⟨hk, hk.2⟩ : _ ∧ k_ ≠ gb1176))) (fun _ hk => hk.2) (.slice A1175_0 ((rd_T33 l0 x12_1).f0).length c1175_0)) (fun _ hk => hk.2) (.slice A1175_1 ((rd_T33 l0 x12_1).f1).length c1175_1)) (fun _ h_ => h_.1)))); (case side8 => exact (Kd.V_reads' HO_1169001.out).2.1); rintro e w16 ⟨rfl, hb⟩; refine ⟨_, rfl, ?_⟩; replace HO_5 := Aside0.mk (Kd.N_below (by (with_reducible repeat (first | apply Kd.N_alloc | apply Kd.N_drewN | apply Kd.N_drew)); exact (Kd.N_mono (Kd.N_far (p := ⟨gb1176, 1, none⟩) (Kd.N_far (p := ⟨gb1176, 0, none⟩) (Kd.N_mono HO_5.out (fun k_ hk => (⟨hk, hk.2⟩ : _ ∧ k_ ≠ gb1176))) (fun _ hk => hk.2) (.slice A1175_0 ((rd_T33 l0 x12_1).f0).length c1175_0)) (fun _ hk => hk.2) (.slice A1175_1 ((rd_T33 l0 x12_1).f1).length c1175_1)) (fun _ h_ => h_.1))) hb); replace HO_10 := Aside0.mk (Kd.V_below (by (with_reducible repeat (first | apply Kd.V_alloc | apply Kd.V_drewN | apply Kd.V_drew)); exact (Kd.V_mono (Kd.V_far (p := ⟨gb1176, 1, none⟩) (Kd.V_far (p := ⟨gb1176, 0, none⟩) (Kd.V_mono HO_10.out (fun k_ hk => (⟨hk, hk.2⟩ : _ ∧ k_ ≠ gb1176))) (fun _ hk => hk.2) (.slice A1175_0 ((rd_T33 l0 x12_1).f0).length c1175_0)) (fun _ hk => hk.2) (.slice A1175_1 ((rd_T33 l0 x12_1).f1).length c1175_1)) (fun _ h_ => h_.1))) hb); replace HO_1169000 := Aside0.mk (Kd.V_below (by (with_reducible repeat (first | apply Kd.V_alloc | apply Kd.V_drewN | apply Kd.V_drew)); exact (Kd.V_mono (Kd.V_far (p := ⟨gb1176, 1, none⟩) (Kd.V_far (p := ⟨gb1176, 0, none⟩) (Kd.V_mono HO_1169000.out (fun k_ hk => (⟨hk, hk.2⟩ : _ ∧ k_ ≠ gb1176))) (fun _ hk => hk.2) (.slice A1175_0 ((rd_T33 l0 x12_1).f0).length c1175_0)) (fun _ hk => hk.2) (.slice A1175_1 ((rd_T33 l0 x12_1).f1).length c1175_1)) (fun _ h_ => h_.1))) hb); replace HO_1169001 := Aside0.mk (Kd.V_below (by (with_reducible repeat (first | apply Kd.V_alloc | apply Kd.V_drewN | apply Kd.V_drew)); exact (Kd.V_mono (Kd.V_far (p := ⟨gb1176, 1, none⟩) (Kd.V_far (p := ⟨gb1176, 0, none⟩) (Kd.V_mono HO_1169001.out (fun k_ hk => (⟨hk, hk.2⟩ : _ ∧ k_ ≠ gb1176))) (fun _ hk => hk.2) (.slice A1175_0 ((rd_T33 l0 x12_1).f0).length c1175_0)) (fun _ hk => hk.2) (.slice A1175_1 ((rd_T33 l0 x12_1).f1).length c1175_1)) (fun _ h_ => h_.1))) hb); replace BK1168 := Aside0.mk (blk_below (g := gb1168) (o := .cells #[.slice A1_0 l1_0.length c1_0, .slice A1_1 l1_1.length c1_1] 33 (0, 0)) (by (with_reducible repeat (first | refine blk_drewN ?_ _ | refine blk_drew ?_ | refine blk_alloc ?_ _)); refine blk_far ?_ NB1168_1176.out _; (with_reducible repeat (first | refine blk_drewN ?_ _ | refine blk_drew ?_ | refine blk_alloc ?_ _)); refine blk_far ?_ NB1168_1176.out _; (with_reducible repeat (first | refine blk_drewN ?_ _ | refine blk_drew ?_ | refine blk_alloc ?_ _)); exact BK1168.out) hb); replace HR1175_0 := Aside0.mk (Kd.C_below ((Kd.V_reads' (by (with_reducible repeat (first | apply Kd.V_alloc | apply Kd.V_drewN | apply Kd.V_drew)); exact (Kd.V_mono (Kd.V_far (p := ⟨gb1176, 1, none⟩) (Kd.V_far (p := ⟨gb1176, 0, none⟩) (Kd.V_mono HL1175_0.out (fun k_ hk => (⟨hk, hk.2⟩ : _ ∧ k_ ≠ gb1176))) (fun _ hk => hk.2) (.slice A1175_0 ((rd_T33 l0 x12_1).f0).length c1175_0)) (fun _ hk => hk.2) (.slice A1175_1 ((rd_T33 l0 x12_1).f1).length c1175_1)) (fun _ h_ => h_.1)))).2.2) hb); replace HL1175_0 := Aside0.mk (Kd.V_below (by (with_reducible repeat (first | apply Kd.V_alloc | apply Kd.V_drewN | apply Kd.V_drew)); exact (Kd.V_mono (Kd.V_far (p := ⟨gb1176, 1, none⟩) (Kd.V_far (p := ⟨gb1176, 0, none⟩) (Kd.V_mono HL1175_0.out (fun k_ hk => (⟨hk, hk.2⟩ : _ ∧ k_ ≠ gb1176))) (fun _ hk => hk.2) (.slice A1175_0 ((rd_T33 l0 x12_1).f0).length c1175_0)) (fun _ hk => hk.2) (.slice A1175_1 ((rd_T33 l0 x12_1).f1).length c1175_1)) (fun _ h_ => h_.1))) hb); replace HR1175_1 := Aside0.mk (Kd.C_below ((Kd.V_reads' (by (with_reducible repeat (first | apply Kd.V_alloc | apply Kd.V_drewN | apply Kd.V_drew)); exact (Kd.V_mono (Kd.V_far (p := ⟨gb1176, 1, none⟩) (Kd.V_far (p := ⟨gb1176, 0, none⟩) (Kd.V_mono HL1175_1.out (fun k_ hk => (⟨hk, hk.2⟩ : _ ∧ k_ ≠ gb1176))) (fun _ hk => hk.2) (.slice A1175_0 ((rd_T33 l0 x12_1).f0).length c1175_0)) (fun _ hk => hk.2) (.slice A1175_1 ((rd_T33 l0 x12_1).f1).length c1175_1)) (fun _ h_ => h_.1)))).2.2) hb); replace HL1175_1 := Aside0.mk (Kd.V_below (by (with_reducible repeat (first | apply Kd.V_alloc | apply Kd.V_drewN | apply Kd.V_drew)); exact (Kd.V_mono (Kd.V_far (p := ⟨gb1176, 1, none⟩) (Kd.V_far (p := ⟨gb1176, 0, none⟩) (Kd.V_mono HL1175_1.out (fun k_ hk => (⟨hk, hk.2⟩ : _ ∧ k_ ≠ gb1176))) (fun _ hk => hk.2) (.slice A1175_0 ((rd_T33 l0 x12_1).f0).length c1175_0)) (fun _ hk => hk.2) (.slice A1175_1 ((rd_T33 l0 x12_1).f1).length c1175_1)) (fun _ h_ => h_.1))) hb); replace BK1176 := Aside0.mk (blk_below (g := gb1176) (o := .cells #[.slice A1175_0 ((rd_T33 l0 x12_1).f0).length c1175_0, .slice A1175_1 ((rd_T33 l0 x12_1).f1).length c1175_1] 33 (0, 0)) qp_ hb); replace HB := b1_ hb; clear hb; have hcz17_0 : w16.cell? ⟨gb1176, 0, none⟩ = some (.slice A1175_0 ((rd_T33 l0 x12_1).f0).length c1175_0) := cz0_ BK1176; have hcz17_1 : w16.cell? ⟨gb1176, 1, none⟩ = some (.slice A1175_1 ((rd_T33 l0 x12_1).f1).length c1175_1) := cz1_ BK1176; have hfz17_0 := blk_frozen BK1176.out 0; have hfz17_1 := blk_frozen BK1176.out 1) | ((with_reducible refine gate_builtin (b := .append) (xs := #[.tmp 30, .tmp 32]) rfl ?_); at_builtin; refine Kd.N_append k33 (w0 := w) w.heap.size rfl (.tmp 30) (.tmp 32) 25 33 (.agg #[(.slice none 0 0), (.slice none 0 0)]) 48 rfl Try.underlying25 info33 rfl (by decide) (by omega) u5 x5_1 (⟨(rd_T33 l0 x12_1).f0, (rd_T33 l0 x12_1).f1⟩ : S33) [.slice A1175_0 ((rd_T33 l0 x12_1).f0).length c1175_0, .slice A1175_1 ((rd_T33 l0 x12_1).f1).length c1175_1] (fun k_ => ((P0_ k_ ∨ P1_0_ k_ ∨ P1_1_ k_) ∨ w.heap.size ≤ k_) ∧ k_ ≠ gb1168 ∧ k_ ≠ gb1176) (fun k_ => ((fun k_ => ((P0_ k_ ∨ P1_0_ k_ ∨ P1_1_ k_) ∨ w.heap.size ≤ k_) ∧ k_ ≠ gb1168 ∧ k_ ≠ gb1176)) k_ ∧ some k_ ≠ (u5 : Value).ownBlock) rfl rfl ?aP (fun _ hk => hk) ?aF ?aO ?aB ?aS ?aL ?_; (case aP => exact (k33_mkF _ _ (⟨(rd_T33 l0 x12_1).f0, (rd_T33 l0 x12_1).f1⟩ : S33) (Kd.V_reads' (Kd.V_mono (ok' := (fun k_ => ((fun k_ => ((P0_ k_ ∨ P1_0_ k_ ∨ P1_1_ k_) ∨ w.heap.size ≤ k_) ∧ k_ ≠ gb1168 ∧ k_ ≠ gb1176)) k_ ∧ some k_ ≠ (u5 : Value).ownBlock)) (HL1175_0.out) (fun k_ hk => ⟨⟨hk.1.1, ⟨hk.1.2.2, hk.2⟩⟩, hk.1.2.1⟩))).2.1 (Kd.V_F (Kd.V_mono (ok' := (fun k_ => ((fun k_ => ((P0_ k_ ∨ P1_0_ k_ ∨ P1_1_ k_) ∨ w.heap.size ≤ k_) ∧ k_ ≠ gb1168 ∧ k_ ≠ gb1176)) k_ ∧ some k_ ≠ (u5 : Value).ownBlock)) (HL1175_0.out) (fun k_ hk => ⟨⟨hk.1.1, ⟨hk.1.2.2, hk.2⟩⟩, hk.1.2.1⟩))) (Kd.V_reads' (Kd.V_mono (ok' := (fun k_ => ((fun k_ => ((P0_ k_ ∨ P1_0_ k_ ∨ P1_1_ k_) ∨ w.heap.size ≤ k_) ∧ k_ ≠ gb1168 ∧ k_ ≠ gb1176)) k_ ∧ some k_ ≠ (u5 : Value).ownBlock)) (HL1175_1.out) (fun k_ hk => ⟨⟨hk.1.1, ⟨hk.1.2.2, hk.2⟩⟩, hk.1.2.1⟩))).2.1 (Kd.V_F (Kd.V_mono (ok' := (fun k_ => ((fun k_ => ((P0_ k_ ∨ P1_0_ k_ ∨ P1_1_ k_) ∨ w.heap.size ≤ k_) ∧ k_ ≠ gb1168 ∧ k_ ≠ gb1176)) k_ ∧ some k_ ≠ (u5 : Value).ownBlock)) (HL1175_1.out) (fun k_ hk => ⟨⟨hk.1.1, ⟨hk.1.2.2, hk.2⟩⟩, hk.1.2.1⟩))))); (case aB => exact hB_); (case aF => exact (fun k_ hk => ⟨(.inr (Nat.le_trans (below_size hB_) hk)), Kd.freshB (kk_ BK1168) k_ hk, Kd.freshB (kk_ BK1176) k_ hk⟩)); (case aO => exact (by (with_reducible repeat (first | apply Kd.N_alloc | apply Kd.N_drewN | apply Kd.N_drew)); exact Kd.N_mono HO_5.out (fun _ hk => ⟨hk.1.1, ⟨hk.1.2, hk.2⟩⟩))); (case aS => exact (below_size hB_)); (case aL => have := LMc11.out; omega); intro v1179 w18 ho hb hg hat; rw [← Ny1178.out] at ho; replace HO_10 := Aside0.mk (Kd.V_afterv (ok := (fun k_ => ((P0_ k_ ∨ P1_0_ k_ ∨ P1_1_ k_) ∨ w.heap.size ≤ k_) ∧ k_ ≠ gb1168 ∧ k_ ≠ gb1176)) (by (with_reducible repeat (first | apply Kd.V_alloc | apply Kd.V_drewN | apply Kd.V_drew)); exact Kd.V_mono HO_10.out (fun _ hk => ⟨⟨hk.1.1, ⟨hk.1.2.2, hk.2⟩⟩, hk.1.2.1⟩)) hg hat); replace HO_1169000 := Aside0.mk (Kd.V_afterv (ok := (fun k_ => ((P0_ k_ ∨ P1_0_ k_ ∨ P1_1_ k_) ∨ w.heap.size ≤ k_) ∧ k_ ≠ gb1168 ∧ k_ ≠ gb1176)) (by (with_reducible repeat (first | apply Kd.V_alloc | apply Kd.V_drewN | apply Kd.V_drew)); exact Kd.V_mono HO_1169000.out (fun _ hk => ⟨⟨hk.1.1, ⟨hk.1.2.2, hk.2⟩⟩, hk.1.2.1⟩)) hg hat); replace HO_1169001 := Aside0.mk (Kd.V_afterv (ok := (fun k_ => ((P0_ k_ ∨ P1_0_ k_ ∨ P1_1_ k_) ∨ w.heap.size ≤ k_) ∧ k_ ≠ gb1168 ∧ k_ ≠ gb1176)) (by (with_reducible repeat (first | apply Kd.V_alloc | apply Kd.V_drewN | apply Kd.V_drew)); exact Kd.V_mono HO_1169001.out (fun _ hk => ⟨⟨hk.1.1, ⟨hk.1.2.2, hk.2⟩⟩, hk.1.2.1⟩)) hg hat); replace BK1168 := Aside0.mk (blk_grown (kk_ BK1168) hg (Kd.N_away HO_5.out (fun _ hk => hk.1.2))); replace HL1175_0 := Aside0.mk (Kd.V_afterv (ok := (fun k_ => ((P0_ k_ ∨ P1_0_ k_ ∨ P1_1_ k_) ∨ w.heap.size ≤ k_) ∧ k_ ≠ gb1168 ∧ k_ ≠ gb1176)) (by (with_reducible repeat (first | apply Kd.V_alloc | apply Kd.V_drewN | apply Kd.V_drew)); exact Kd.V_mono HL1175_0.out (fun _ hk => ⟨⟨hk.1.1, ⟨hk.1.2.2, hk.2⟩⟩, hk.1.2.1⟩)) hg hat); replace HL1175_1 := Aside0.mk (Kd.V_afterv (ok := (fun k_ => ((P0_ k_ ∨ P1_0_ k_ ∨ P1_1_ k_) ∨ w.heap.size ≤ k_) ∧ k_ ≠ gb1168 ∧ k_ ≠ gb1176)) (by (with_reducible repeat (first | apply Kd.V_alloc | apply Kd.V_drewN | apply Kd.V_drew)); exact Kd.V_mono HL1175_1.out (fun _ hk => ⟨⟨hk.1.1, ⟨hk.1.2.2, hk.2⟩⟩, hk.1.2.1⟩)) hg hat); replace BK1176 := Aside0.mk (blk_grown (kk_ BK1176) hg (Kd.N_away HO_5.out (fun _ hk => hk.2))); replace HB := Aside0.mk hb; have HO1180 := Aside0.mk ho; clear HO_5; clear ho hb hg hat))
          go_roundg k1
          case measure => have := HK1.out; omega
          case rel => exact ⟨(y1178), (true), (wrap64 (x12_1 + 1)), qc_, qc_, H', ⟨by have := HK1.out; omega⟩, ⟨by (with_reducible repeat (first | apply Kd.N_alloc | apply Kd.N_drewN | apply Kd.N_drew)); exact Kd.N_mono HO1180.out (fun _ hk => ⟨hk.1, hk.2.1⟩)⟩, ⟨by (with_reducible repeat (first | apply Kd.V_alloc | apply Kd.V_drewN | apply Kd.V_drew)); exact Kd.V_mono HO_10.out (fun _ hk => ⟨hk.1.1, ⟨hk.2, hk.1.2.1⟩⟩)⟩, ⟨by (with_reducible repeat (first | apply Kd.V_alloc | apply Kd.V_drewN | apply Kd.V_drew)); exact Kd.V_mono HO_1169000.out (fun _ hk => ⟨hk.1.1, ⟨hk.2, hk.1.2.1⟩⟩)⟩, ⟨by (with_reducible repeat (first | apply Kd.V_alloc | apply Kd.V_drewN | apply Kd.V_drew)); exact Kd.V_mono HO_1169001.out (fun _ hk => ⟨hk.1.1, ⟨hk.2, hk.1.2.1⟩⟩)⟩, ⟨(kk_ BK1168)⟩, ⟨hB_⟩⟩
        · replace c10 := Bool.eq_false_iff.mpr c10
          subst c10
          have H1 : (if x6_1 = true then (if x5_1.length < 2932031007402 then (spec_l10Insert.l0 k1 (x5_1 ++ [(⟨(rd_T33 l0 x12_1).f0, (rd_T33 l0 x12_1).f1⟩ : S33)]) x6_1 l0 (l0.length : Int) (wrap64 (x12_1 + 1)) l1_0 l1_1) else (none)) else ((spec_l03Before.f k1 l1_0 l1_1 ((rd_T33 l0 x12_1).f0) ((rd_T33 l0 x12_1).f1)).bind fun t1184 => (if t1184 = true then (if x5_1.length < 2932031007402 then ((some (x5_1 ++ [(⟨l1_0, l1_1⟩ : S33)] : List (S33))).bind fun y1185 => (if y1185.length < 2932031007402 then (spec_l10Insert.l0 k1 (y1185 ++ [(⟨(rd_T33 l0 x12_1).f0, (rd_T33 l0 x12_1).f1⟩ : S33)]) true l0 (l0.length : Int) (wrap64 (x12_1 + 1)) l1_0 l1_1) else (none))) else (none)) else (if x5_1.length < 2932031007402 then (spec_l10Insert.l0 k1 (x5_1 ++ [(⟨(rd_T33 l0 x12_1).f0, (rd_T33 l0 x12_1).f1⟩ : S33)]) x6_1 l0 (l0.length : Int) (wrap64 (x12_1 + 1)) l1_0 l1_1) else (none))))) = some r := by rw [if_neg (show ¬ (false = true) by decide)] at H; exact H
          clear H
          have H := H1
          clear H1
          by_cases c19 : x6_1 = true
          · subst c19
            rw [if_pos rfl] at H
            have c20 := cp_ H
            replace H := ca_ H
            have LMc20 := Aside0.mk c20
            clear c20
            obtain ⟨y1181, hy1181⟩ : ∃ y_ : List (S33), y_ = (x5_1 ++ [(⟨(rd_T33 l0 x12_1).f0, (rd_T33 l0 x12_1).f1⟩ : S33)]) := ⟨_, rfl⟩
            replace H : (spec_l10Insert.l0 k1 y1181 true l0 (l0.length : Int) (wrap64 (x12_1 + 1)) l1_0 l1_1) = some r := by first | (rw [hy1181]; exact H) | exact H
            have Ny1181 := Aside0.mk hy1181
            clear hy1181
            have H' := Aside0.mk H
            clear H
            have p1175 : 0 ≤ (x12_1 : Int) := of_decide_eq_true qe_
            have q1175 : x12_1 < (l0.length : Int) := of_decide_eq_true qe_
            obtain ⟨ad1175, A1175_0, c1175_0, A1175_1, c1175_1, e1175, hx1175_0, hx1175_1, hl1175_0, hi1175_0, hl1175_1, hi1175_1⟩ := at_T33 (Kd.V_reads' HO_10.out).2.2 x12_1 p1175 q1175
            cases e1175
            obtain ⟨ce1175, hce1175, hMe1175, hcc1175⟩ := Kd.V_get HO_10.out z33 x12_1 p1175 (by first | exact q1175 | exact of_decide_eq_true qe_ | (have e_ := (Kd.V_reads' HO_10.out).1; omega))
            obtain ⟨ua1175_0, uc1175_0, ua1175_1, uc1175_1, rfl, ul1175_0, ge1175_0, ul1175_1, ge1175_1⟩ := k33_openF hMe1175
            have hv1175_0 := hcc1175 0 _ rfl
            rw [Nat.add_zero] at hv1175_0
            replace hv1175_0 := Option.some.inj (hv1175_0.symm.trans hx1175_0)
            injection hv1175_0 with hva_ hvn_ hvc_
            rw [hva_] at ge1175_0
            rw [hvc_] at ul1175_0
            have HL1175_0 := Aside0.mk (show Kd.V (Kd.int .i64) 3 _ w.heap.size _ _ ((rd_T33 l0 x12_1).f0) from Kd.V_mk ul1175_0 ge1175_0)
            clear hva_ hvn_ hvc_ ge1175_0 ul1175_0
            have hv1175_1 := hcc1175 1 _ rfl
            rw [add_field _ _ 1 (by omega)] at hv1175_1
            replace hv1175_1 := Option.some.inj (hv1175_1.symm.trans hx1175_1)
            injection hv1175_1 with hva_ hvn_ hvc_
            rw [hva_] at ge1175_1
            rw [hvc_] at ul1175_1
            have HL1175_1 := Aside0.mk (show Kd.V (Kd.int .i64) 3 _ w.heap.size _ _ ((rd_T33 l0 x12_1).f1) from Kd.V_mk ul1175_1 ge1175_1)
            clear hva_ hvn_ hvc_ ge1175_1 ul1175_1
            clear hcc1175 hce1175
            have HR1175_0 := Aside0.mk hi1175_0
            have HC1175_0 := Aside0.mk hl1175_0
            clear hi1175_0 hl1175_0
            have HR1175_1 := Aside0.mk hi1175_1
            have HC1175_1 := Aside0.mk hl1175_1
            clear hi1175_1 hl1175_1
            replace p1175 := eq_true p1175
            replace q1175 := eq_true q1175
            go_wp2_with (first | ((with_reducible refine gate_dst (N := 8) rfl ?_); refine bx_ 8 #[.slice none 0 0, .slice none 0 0] 33 ?_; intro gb1176 hg w21 hbox hb; replace HO_5 := Aside0.mk (Kd.N_below (Kd.N_elderB (by (with_reducible repeat (first | apply Kd.N_alloc | apply Kd.N_drewN | apply Kd.N_drew)); exact HO_5.out) gb1176 (Nat.le_of_eq hg.symm)) hb); replace HO_10 := Aside0.mk (Kd.V_below (Kd.V_elderB (by (with_reducible repeat (first | apply Kd.V_alloc | apply Kd.V_drewN | apply Kd.V_drew)); exact HO_10.out) gb1176 (Nat.le_of_eq hg.symm)) hb); replace HO_1169000 := Aside0.mk (Kd.V_below (Kd.V_elderB (by (with_reducible repeat (first | apply Kd.V_alloc | apply Kd.V_drewN | apply Kd.V_drew)); exact HO_1169000.out) gb1176 (Nat.le_of_eq hg.symm)) hb); replace HO_1169001 := Aside0.mk (Kd.V_below (Kd.V_elderB (by (with_reducible repeat (first | apply Kd.V_alloc | apply Kd.V_drewN | apply Kd.V_drew)); exact HO_1169001.out) gb1176 (Nat.le_of_eq hg.symm)) hb); replace HL1175_0 := Aside0.mk (Kd.V_below (Kd.V_elderB (by (with_reducible repeat (first | apply Kd.V_alloc | apply Kd.V_drewN | apply Kd.V_drew)); exact HL1175_0.out) gb1176 (Nat.le_of_eq hg.symm)) hb); replace HL1175_1 := Aside0.mk (Kd.V_below (Kd.V_elderB (by (with_reducible repeat (first | apply Kd.V_alloc | apply Kd.V_drewN | apply Kd.V_drew)); exact HL1175_1.out) gb1176 (Nat.le_of_eq hg.symm)) hb); replace HR1175_0 := Aside0.mk (Kd.C_below (by repeat (first | (with_reducible exact HR1175_0.out) | (with_reducible refine Kd.C_alloc ?_ _) | (with_reducible refine Kd.C_drewN ?_ _) | (with_reducible refine Kd.C_drew ?_) | exact HR1175_0.out)) hb); replace HR1175_1 := Aside0.mk (Kd.C_below (by repeat (first | (with_reducible exact HR1175_1.out) | (with_reducible refine Kd.C_alloc ?_ _) | (with_reducible refine Kd.C_drewN ?_ _) | (with_reducible refine Kd.C_drew ?_) | exact HR1175_1.out)) hb); have BK1176 := Aside0.mk hbox; have GW1176 := gw_ w hg; have GE1176 := GW1176; replace HB := b1_ hb; have NB1168_1176 := gN_ BK1168 hg; have NB1176_1168 := gP_ BK1168 hg; replace BK1168 := bb_ BK1168 hb; clear hb hbox hg; have hnb22 := NB1176_1168.out; have hnc22 := NB1168_1176.out; obtain ⟨hcz23_0, hcz23_1, hfz23_0, hfz23_1⟩ := c2_ BK1176; obtain ⟨hcz24_0, hcz24_1, hfz24_0, hfz24_1⟩ := c2_ BK1168) | ((with_reducible refine gate_callee (f := 125) rfl ?_); refine gL_ (some 18) Try.func125 #[.agg #[.slice A1175_0 ((rd_T33 l0 x12_1).f0).length c1175_0, .slice A1175_1 ((rd_T33 l0 x12_1).f1).length c1175_1], .agg #[.slice A1_0 l1_0.length c1_0, .slice A1_1 l1_1.length c1_1]] rfl qa_ ?_; (with_reducible refine (spec_SameSurface.calls k1 _ _ ((rd_T33 l0 x12_1).f0) _ _ ((rd_T33 l0 x12_1).f1) _ _ l1_0 _ _ l1_1 false _ ?side1 ?side2 ?side3 ?side4 ?side5 ?side6 ?side7 ?side8 A9.out).mono ?_); (case side1 => repeat (first | exact ((Kd.V_reads' (by (with_reducible repeat (first | apply Kd.V_alloc | apply Kd.V_drewN | apply Kd.V_drew)); exact (Kd.V_mono (Kd.V_far (p := ⟨gb1176, 1, none⟩) (Kd.V_far (p := ⟨gb1176, 0, none⟩) (Kd.V_mono HL1175_0.out (fun k_ hk => (⟨hk, hk.2⟩ : _ ∧ k_ ≠ gb1176))) (fun _ hk => hk.2) (.slice A1175_0 ((rd_T33 l0 x12_1).f0).length c1175_0)) (fun _ hk => hk.2) (.slice A1175_1 ((rd_T33 l0 x12_1).f1).length c1175_1)) (fun _ h_ => h_.1)))).2.2) | (with_reducible refine Kd.C_alloc ?_ _) | (with_reducible refine Kd.C_drewN ?_ _) | (with_reducible refine Kd.C_drew ?_))); (case side2 => exact HC1175_0.out); (case side3 => repeat (first | exact ((Kd.V_reads' (by (with_reducible repeat (first | apply Kd.V_alloc | apply Kd.V_drewN | apply Kd.V_drew)); exact (Kd.V_mono (Kd.V_far (p := ⟨gb1176, 1, none⟩) (Kd.V_far (p := ⟨gb1176, 0, none⟩) (Kd.V_mono HL1175_1.out (fun k_ hk => (⟨hk, hk.2⟩ : _ ∧ k_ ≠ gb1176))) (fun _ hk => hk.2) (.slice A1175_0 ((rd_T33 l0 x12_1).f0).length c1175_0)) (fun _ hk => hk.2) (.slice A1175_1 ((rd_T33 l0 x12_1).f1).length c1175_1)) (fun _ h_ => h_.1)))).2.2) | (with_reducible refine Kd.C_alloc ?_ _) | (with_reducible refine Kd.C_drewN ?_ _) | (with_reducible refine Kd.C_drew ?_))); (case side4 => exact HC1175_1.out); (case side5 => refine (Kd.V_reads' (e := 3) (base := w.heap.size) (ok := fun k_ => ((((P0_ k_ ∨ P1_0_ k_ ∨ P1_1_ k_) ∨ w.heap.size ≤ k_) ∧ (some k_ ≠ (u5 : Value).ownBlock ∧ k_ ≠ gb1168)) ∧ k_ ≠ gb1176)) (n := l1_0.length) (c := c1_0) ?_).2.2; exact (by (with_reducible repeat (first | apply Kd.V_alloc | apply Kd.V_drewN | apply Kd.V_drew)); exact (Kd.V_mono (Kd.V_far (p := ⟨gb1176, 1, none⟩) (Kd.V_far (p := ⟨gb1176, 0, none⟩) (Kd.V_mono HO_1169000.out (fun k_ hk => (⟨hk, hk.2⟩ : _ ∧ k_ ≠ gb1176))) (fun _ hk => hk.2) (.slice A1175_0 ((rd_T33 l0 x12_1).f0).length c1175_0)) (fun _ hk => hk.2) (.slice A1175_1 ((rd_T33 l0 x12_1).f1).length c1175_1)) (fun _ h_ => h_.1)))); (case side6 => exact (Kd.V_reads' HO_1169000.out).2.1); (case side7 => refine (Kd.V_reads' (e := 3) (base := w.heap.size) (ok := fun k_ => ((((P0_ k_ ∨ P1_0_ k_ ∨ P1_1_ k_) ∨ w.heap.size ≤ k_) ∧ (some k_ ≠ (u5 : Value).ownBlock ∧ k_ ≠ gb1168)) ∧ k_ ≠ gb1176)) (n := l1_1.length) (c := c1_1) ?_).2.2; exact (by (with_reducible repeat (first | apply Kd.V_alloc | apply Kd.V_drewN | apply Kd.V_drew)); exact (Kd.V_mono (Kd.V_far (p := ⟨gb1176, 1, none⟩) (Kd.V_far (p := ⟨gb1176, 0, none⟩) (Kd.V_mono HO_1169001.out (fun k_ hk => (⟨hk, hk.2⟩ : _ ∧ k_ ≠ gb1176))) (fun _ hk => hk.2) (.slice A1175_0 ((rd_T33 l0 x12_1).f0).length c1175_0)) (fun _ hk => hk.2) (.slice A1175_1 ((rd_T33 l0 x12_1).f1).length c1175_1)) (fun _ h_ => h_.1)))); (case side8 => exact (Kd.V_reads' HO_1169001.out).2.1); rintro e w25 ⟨rfl, hb⟩; refine ⟨_, rfl, ?_⟩; replace HO_5 := Aside0.mk (Kd.N_below (by (with_reducible repeat (first | apply Kd.N_alloc | apply Kd.N_drewN | apply Kd.N_drew)); exact (Kd.N_mono (Kd.N_far (p := ⟨gb1176, 1, none⟩) (Kd.N_far (p := ⟨gb1176, 0, none⟩) (Kd.N_mono HO_5.out (fun k_ hk => (⟨hk, hk.2⟩ : _ ∧ k_ ≠ gb1176))) (fun _ hk => hk.2) (.slice A1175_0 ((rd_T33 l0 x12_1).f0).length c1175_0)) (fun _ hk => hk.2) (.slice A1175_1 ((rd_T33 l0 x12_1).f1).length c1175_1)) (fun _ h_ => h_.1))) hb); replace HO_10 := Aside0.mk (Kd.V_below (by (with_reducible repeat (first | apply Kd.V_alloc | apply Kd.V_drewN | apply Kd.V_drew)); exact (Kd.V_mono (Kd.V_far (p := ⟨gb1176, 1, none⟩) (Kd.V_far (p := ⟨gb1176, 0, none⟩) (Kd.V_mono HO_10.out (fun k_ hk => (⟨hk, hk.2⟩ : _ ∧ k_ ≠ gb1176))) (fun _ hk => hk.2) (.slice A1175_0 ((rd_T33 l0 x12_1).f0).length c1175_0)) (fun _ hk => hk.2) (.slice A1175_1 ((rd_T33 l0 x12_1).f1).length c1175_1)) (fun _ h_ => h_.1))) hb); replace HO_1169000 := Aside0.mk (Kd.V_below (by (with_reducible repeat (first | apply Kd.V_alloc | apply Kd.V_drewN | apply Kd.V_drew)); exact (Kd.V_mono (Kd.V_far (p := ⟨gb1176, 1, none⟩) (Kd.V_far (p := ⟨gb1176, 0, none⟩) (Kd.V_mono HO_1169000.out (fun k_ hk => (⟨hk, hk.2⟩ : _ ∧ k_ ≠ gb1176))) (fun _ hk => hk.2) (.slice A1175_0 ((rd_T33 l0 x12_1).f0).length c1175_0)) (fun _ hk => hk.2) (.slice A1175_1 ((rd_T33 l0 x12_1).f1).length c1175_1)) (fun _ h_ => h_.1))) hb); replace HO_1169001 := Aside0.mk (Kd.V_below (by (with_reducible repeat (first | apply Kd.V_alloc | apply Kd.V_drewN | apply Kd.V_drew)); exact (Kd.V_mono (Kd.V_far (p := ⟨gb1176, 1, none⟩) (Kd.V_far (p := ⟨gb1176, 0, none⟩) (Kd.V_mono HO_1169001.out (fun k_ hk => (⟨hk, hk.2⟩ : _ ∧ k_ ≠ gb1176))) (fun _ hk => hk.2) (.slice A1175_0 ((rd_T33 l0 x12_1).f0).length c1175_0)) (fun _ hk => hk.2) (.slice A1175_1 ((rd_T33 l0 x12_1).f1).length c1175_1)) (fun _ h_ => h_.1))) hb); replace BK1168 := Aside0.mk (blk_below (g := gb1168) (o := .cells #[.slice A1_0 l1_0.length c1_0, .slice A1_1 l1_1.length c1_1] 33 (0, 0)) (by (with_reducible repeat (first | refine blk_drewN ?_ _ | refine blk_drew ?_ | refine blk_alloc ?_ _)); refine blk_far ?_ NB1168_1176.out _; (with_reducible repeat (first | refine blk_drewN ?_ _ | refine blk_drew ?_ | refine blk_alloc ?_ _)); refine blk_far ?_ NB1168_1176.out _; (with_reducible repeat (first | refine blk_drewN ?_ _ | refine blk_drew ?_ | refine blk_alloc ?_ _)); exact BK1168.out) hb); replace HR1175_0 := Aside0.mk (Kd.C_below ((Kd.V_reads' (by (with_reducible repeat (first | apply Kd.V_alloc | apply Kd.V_drewN | apply Kd.V_drew)); exact (Kd.V_mono (Kd.V_far (p := ⟨gb1176, 1, none⟩) (Kd.V_far (p := ⟨gb1176, 0, none⟩) (Kd.V_mono HL1175_0.out (fun k_ hk => (⟨hk, hk.2⟩ : _ ∧ k_ ≠ gb1176))) (fun _ hk => hk.2) (.slice A1175_0 ((rd_T33 l0 x12_1).f0).length c1175_0)) (fun _ hk => hk.2) (.slice A1175_1 ((rd_T33 l0 x12_1).f1).length c1175_1)) (fun _ h_ => h_.1)))).2.2) hb); replace HL1175_0 := Aside0.mk (Kd.V_below (by (with_reducible repeat (first | apply Kd.V_alloc | apply Kd.V_drewN | apply Kd.V_drew)); exact (Kd.V_mono (Kd.V_far (p := ⟨gb1176, 1, none⟩) (Kd.V_far (p := ⟨gb1176, 0, none⟩) (Kd.V_mono HL1175_0.out (fun k_ hk => (⟨hk, hk.2⟩ : _ ∧ k_ ≠ gb1176))) (fun _ hk => hk.2) (.slice A1175_0 ((rd_T33 l0 x12_1).f0).length c1175_0)) (fun _ hk => hk.2) (.slice A1175_1 ((rd_T33 l0 x12_1).f1).length c1175_1)) (fun _ h_ => h_.1))) hb); replace HR1175_1 := Aside0.mk (Kd.C_below ((Kd.V_reads' (by (with_reducible repeat (first | apply Kd.V_alloc | apply Kd.V_drewN | apply Kd.V_drew)); exact (Kd.V_mono (Kd.V_far (p := ⟨gb1176, 1, none⟩) (Kd.V_far (p := ⟨gb1176, 0, none⟩) (Kd.V_mono HL1175_1.out (fun k_ hk => (⟨hk, hk.2⟩ : _ ∧ k_ ≠ gb1176))) (fun _ hk => hk.2) (.slice A1175_0 ((rd_T33 l0 x12_1).f0).length c1175_0)) (fun _ hk => hk.2) (.slice A1175_1 ((rd_T33 l0 x12_1).f1).length c1175_1)) (fun _ h_ => h_.1)))).2.2) hb); replace HL1175_1 := Aside0.mk (Kd.V_below (by (with_reducible repeat (first | apply Kd.V_alloc | apply Kd.V_drewN | apply Kd.V_drew)); exact (Kd.V_mono (Kd.V_far (p := ⟨gb1176, 1, none⟩) (Kd.V_far (p := ⟨gb1176, 0, none⟩) (Kd.V_mono HL1175_1.out (fun k_ hk => (⟨hk, hk.2⟩ : _ ∧ k_ ≠ gb1176))) (fun _ hk => hk.2) (.slice A1175_0 ((rd_T33 l0 x12_1).f0).length c1175_0)) (fun _ hk => hk.2) (.slice A1175_1 ((rd_T33 l0 x12_1).f1).length c1175_1)) (fun _ h_ => h_.1))) hb); replace BK1176 := Aside0.mk (blk_below (g := gb1176) (o := .cells #[.slice A1175_0 ((rd_T33 l0 x12_1).f0).length c1175_0, .slice A1175_1 ((rd_T33 l0 x12_1).f1).length c1175_1] 33 (0, 0)) qp_ hb); replace HB := b1_ hb; clear hb; have hcz26_0 : w25.cell? ⟨gb1176, 0, none⟩ = some (.slice A1175_0 ((rd_T33 l0 x12_1).f0).length c1175_0) := cz0_ BK1176; have hcz26_1 : w25.cell? ⟨gb1176, 1, none⟩ = some (.slice A1175_1 ((rd_T33 l0 x12_1).f1).length c1175_1) := cz1_ BK1176; have hfz26_0 := blk_frozen BK1176.out 0; have hfz26_1 := blk_frozen BK1176.out 1) | ((with_reducible refine gate_builtin (b := .append) (xs := #[.tmp 30, .tmp 32]) rfl ?_); at_builtin; refine Kd.N_append k33 (w0 := w) w.heap.size rfl (.tmp 30) (.tmp 32) 25 33 (.agg #[(.slice none 0 0), (.slice none 0 0)]) 48 rfl Try.underlying25 info33 rfl (by decide) (by omega) u5 x5_1 (⟨(rd_T33 l0 x12_1).f0, (rd_T33 l0 x12_1).f1⟩ : S33) [.slice A1175_0 ((rd_T33 l0 x12_1).f0).length c1175_0, .slice A1175_1 ((rd_T33 l0 x12_1).f1).length c1175_1] (fun k_ => ((P0_ k_ ∨ P1_0_ k_ ∨ P1_1_ k_) ∨ w.heap.size ≤ k_) ∧ k_ ≠ gb1168 ∧ k_ ≠ gb1176) (fun k_ => ((fun k_ => ((P0_ k_ ∨ P1_0_ k_ ∨ P1_1_ k_) ∨ w.heap.size ≤ k_) ∧ k_ ≠ gb1168 ∧ k_ ≠ gb1176)) k_ ∧ some k_ ≠ (u5 : Value).ownBlock) rfl rfl ?aP (fun _ hk => hk) ?aF ?aO ?aB ?aS ?aL ?_; (case aP => exact (k33_mkF _ _ (⟨(rd_T33 l0 x12_1).f0, (rd_T33 l0 x12_1).f1⟩ : S33) (Kd.V_reads' (Kd.V_mono (ok' := (fun k_ => ((fun k_ => ((P0_ k_ ∨ P1_0_ k_ ∨ P1_1_ k_) ∨ w.heap.size ≤ k_) ∧ k_ ≠ gb1168 ∧ k_ ≠ gb1176)) k_ ∧ some k_ ≠ (u5 : Value).ownBlock)) (HL1175_0.out) (fun k_ hk => ⟨⟨hk.1.1, ⟨hk.1.2.2, hk.2⟩⟩, hk.1.2.1⟩))).2.1 (Kd.V_F (Kd.V_mono (ok' := (fun k_ => ((fun k_ => ((P0_ k_ ∨ P1_0_ k_ ∨ P1_1_ k_) ∨ w.heap.size ≤ k_) ∧ k_ ≠ gb1168 ∧ k_ ≠ gb1176)) k_ ∧ some k_ ≠ (u5 : Value).ownBlock)) (HL1175_0.out) (fun k_ hk => ⟨⟨hk.1.1, ⟨hk.1.2.2, hk.2⟩⟩, hk.1.2.1⟩))) (Kd.V_reads' (Kd.V_mono (ok' := (fun k_ => ((fun k_ => ((P0_ k_ ∨ P1_0_ k_ ∨ P1_1_ k_) ∨ w.heap.size ≤ k_) ∧ k_ ≠ gb1168 ∧ k_ ≠ gb1176)) k_ ∧ some k_ ≠ (u5 : Value).ownBlock)) (HL1175_1.out) (fun k_ hk => ⟨⟨hk.1.1, ⟨hk.1.2.2, hk.2⟩⟩, hk.1.2.1⟩))).2.1 (Kd.V_F (Kd.V_mono (ok' := (fun k_ => ((fun k_ => ((P0_ k_ ∨ P1_0_ k_ ∨ P1_1_ k_) ∨ w.heap.size ≤ k_) ∧ k_ ≠ gb1168 ∧ k_ ≠ gb1176)) k_ ∧ some k_ ≠ (u5 : Value).ownBlock)) (HL1175_1.out) (fun k_ hk => ⟨⟨hk.1.1, ⟨hk.1.2.2, hk.2⟩⟩, hk.1.2.1⟩))))); (case aB => exact hB_); (case aF => exact (fun k_ hk => ⟨(.inr (Nat.le_trans (below_size hB_) hk)), Kd.freshB (kk_ BK1168) k_ hk, Kd.freshB (kk_ BK1176) k_ hk⟩)); (case aO => exact (by (with_reducible repeat (first | apply Kd.N_alloc | apply Kd.N_drewN | apply Kd.N_drew)); exact Kd.N_mono HO_5.out (fun _ hk => ⟨hk.1.1, ⟨hk.1.2, hk.2⟩⟩))); (case aS => exact (below_size hB_)); (case aL => have := LMc20.out; omega); intro v1182 w27 ho hb hg hat; rw [← Ny1181.out] at ho; replace HO_10 := Aside0.mk (Kd.V_afterv (ok := (fun k_ => ((P0_ k_ ∨ P1_0_ k_ ∨ P1_1_ k_) ∨ w.heap.size ≤ k_) ∧ k_ ≠ gb1168 ∧ k_ ≠ gb1176)) (by (with_reducible repeat (first | apply Kd.V_alloc | apply Kd.V_drewN | apply Kd.V_drew)); exact Kd.V_mono HO_10.out (fun _ hk => ⟨⟨hk.1.1, ⟨hk.1.2.2, hk.2⟩⟩, hk.1.2.1⟩)) hg hat); replace HO_1169000 := Aside0.mk (Kd.V_afterv (ok := (fun k_ => ((P0_ k_ ∨ P1_0_ k_ ∨ P1_1_ k_) ∨ w.heap.size ≤ k_) ∧ k_ ≠ gb1168 ∧ k_ ≠ gb1176)) (by (with_reducible repeat (first | apply Kd.V_alloc | apply Kd.V_drewN | apply Kd.V_drew)); exact Kd.V_mono HO_1169000.out (fun _ hk => ⟨⟨hk.1.1, ⟨hk.1.2.2, hk.2⟩⟩, hk.1.2.1⟩)) hg hat); replace HO_1169001 := Aside0.mk (Kd.V_afterv (ok := (fun k_ => ((P0_ k_ ∨ P1_0_ k_ ∨ P1_1_ k_) ∨ w.heap.size ≤ k_) ∧ k_ ≠ gb1168 ∧ k_ ≠ gb1176)) (by (with_reducible repeat (first | apply Kd.V_alloc | apply Kd.V_drewN | apply Kd.V_drew)); exact Kd.V_mono HO_1169001.out (fun _ hk => ⟨⟨hk.1.1, ⟨hk.1.2.2, hk.2⟩⟩, hk.1.2.1⟩)) hg hat); replace BK1168 := Aside0.mk (blk_grown (kk_ BK1168) hg (Kd.N_away HO_5.out (fun _ hk => hk.1.2))); replace HL1175_0 := Aside0.mk (Kd.V_afterv (ok := (fun k_ => ((P0_ k_ ∨ P1_0_ k_ ∨ P1_1_ k_) ∨ w.heap.size ≤ k_) ∧ k_ ≠ gb1168 ∧ k_ ≠ gb1176)) (by (with_reducible repeat (first | apply Kd.V_alloc | apply Kd.V_drewN | apply Kd.V_drew)); exact Kd.V_mono HL1175_0.out (fun _ hk => ⟨⟨hk.1.1, ⟨hk.1.2.2, hk.2⟩⟩, hk.1.2.1⟩)) hg hat); replace HL1175_1 := Aside0.mk (Kd.V_afterv (ok := (fun k_ => ((P0_ k_ ∨ P1_0_ k_ ∨ P1_1_ k_) ∨ w.heap.size ≤ k_) ∧ k_ ≠ gb1168 ∧ k_ ≠ gb1176)) (by (with_reducible repeat (first | apply Kd.V_alloc | apply Kd.V_drewN | apply Kd.V_drew)); exact Kd.V_mono HL1175_1.out (fun _ hk => ⟨⟨hk.1.1, ⟨hk.1.2.2, hk.2⟩⟩, hk.1.2.1⟩)) hg hat); replace BK1176 := Aside0.mk (blk_grown (kk_ BK1176) hg (Kd.N_away HO_5.out (fun _ hk => hk.2))); replace HB := Aside0.mk hb; have HO1183 := Aside0.mk ho; clear HO_5; clear ho hb hg hat))
            go_roundg k1
            case measure => have := HK1.out; omega
            case rel => exact ⟨(y1181), (true), (wrap64 (x12_1 + 1)), qc_, qc_, H', ⟨by have := HK1.out; omega⟩, ⟨by (with_reducible repeat (first | apply Kd.N_alloc | apply Kd.N_drewN | apply Kd.N_drew)); exact Kd.N_mono HO1183.out (fun _ hk => ⟨hk.1, hk.2.1⟩)⟩, ⟨by (with_reducible repeat (first | apply Kd.V_alloc | apply Kd.V_drewN | apply Kd.V_drew)); exact Kd.V_mono HO_10.out (fun _ hk => ⟨hk.1.1, ⟨hk.2, hk.1.2.1⟩⟩)⟩, ⟨by (with_reducible repeat (first | apply Kd.V_alloc | apply Kd.V_drewN | apply Kd.V_drew)); exact Kd.V_mono HO_1169000.out (fun _ hk => ⟨hk.1.1, ⟨hk.2, hk.1.2.1⟩⟩)⟩, ⟨by (with_reducible repeat (first | apply Kd.V_alloc | apply Kd.V_drewN | apply Kd.V_drew)); exact Kd.V_mono HO_1169001.out (fun _ hk => ⟨hk.1.1, ⟨hk.2, hk.1.2.1⟩⟩)⟩, ⟨(kk_ BK1168)⟩, ⟨hB_⟩⟩
          · replace c19 := Bool.eq_false_iff.mpr c19
            subst c19
            have H1 : ((spec_l03Before.f k1 l1_0 l1_1 ((rd_T33 l0 x12_1).f0) ((rd_T33 l0 x12_1).f1)).bind fun t1184 => (if t1184 = true then (if x5_1.length < 2932031007402 then ((some (x5_1 ++ [(⟨l1_0, l1_1⟩ : S33)] : List (S33))).bind fun y1185 => (if y1185.length < 2932031007402 then (spec_l10Insert.l0 k1 (y1185 ++ [(⟨(rd_T33 l0 x12_1).f0, (rd_T33 l0 x12_1).f1⟩ : S33)]) true l0 (l0.length : Int) (wrap64 (x12_1 + 1)) l1_0 l1_1) else (none))) else (none)) else (if x5_1.length < 2932031007402 then (spec_l10Insert.l0 k1 (x5_1 ++ [(⟨(rd_T33 l0 x12_1).f0, (rd_T33 l0 x12_1).f1⟩ : S33)]) false l0 (l0.length : Int) (wrap64 (x12_1 + 1)) l1_0 l1_1) else (none)))) = some r := by rw [if_neg (show ¬ (false = true) by decide)] at H; exact H
            clear H
            have H := H1
            clear H1
            obtain ⟨t1184, A28, H⟩ := bi_ H
            by_cases c29 : t1184 = true
            · subst c29
              rw [if_pos rfl] at H
              have c30 := cp_ H
              replace H := ca_ H
              have LMc30 := Aside0.mk c30
              clear c30
              obtain ⟨y1185, hy1185⟩ : ∃ y_ : List (S33), y_ = (x5_1 ++ [(⟨l1_0, l1_1⟩ : S33)]) := ⟨_, rfl⟩
              replace H : (if y1185.length < 2932031007402 then (spec_l10Insert.l0 k1 (y1185 ++ [(⟨(rd_T33 l0 x12_1).f0, (rd_T33 l0 x12_1).f1⟩ : S33)]) true l0 (l0.length : Int) (wrap64 (x12_1 + 1)) l1_0 l1_1) else (none)) = some r := by first | (rw [hy1185]; exact H) | exact H
              have Ny1185 := Aside0.mk hy1185
              clear hy1185
              have c31 := cp_ H
              replace H := ca_ H
              have LMc31 := Aside0.mk c31
              clear c31
              obtain ⟨y1188, hy1188⟩ : ∃ y_ : List (S33), y_ = (y1185 ++ [(⟨(rd_T33 l0 x12_1).f0, (rd_T33 l0 x12_1).f1⟩ : S33)]) := ⟨_, rfl⟩
              replace H : (spec_l10Insert.l0 k1 y1188 true l0 (l0.length : Int) (wrap64 (x12_1 + 1)) l1_0 l1_1) = some r := by first | (rw [hy1188]; exact H) | exact H
              have Ny1188 := Aside0.mk hy1188
              clear hy1188
              have H' := Aside0.mk H
              clear H
              have p1175 : 0 ≤ (x12_1 : Int) := of_decide_eq_true qe_
              have q1175 : x12_1 < (l0.length : Int) := of_decide_eq_true qe_
              obtain ⟨ad1175, A1175_0, c1175_0, A1175_1, c1175_1, e1175, hx1175_0, hx1175_1, hl1175_0, hi1175_0, hl1175_1, hi1175_1⟩ := at_T33 (Kd.V_reads' HO_10.out).2.2 x12_1 p1175 q1175
              cases e1175
              obtain ⟨ce1175, hce1175, hMe1175, hcc1175⟩ := Kd.V_get HO_10.out z33 x12_1 p1175 (by first | exact q1175 | exact of_decide_eq_true qe_ | (have e_ := (Kd.V_reads' HO_10.out).1; omega))
              obtain ⟨ua1175_0, uc1175_0, ua1175_1, uc1175_1, rfl, ul1175_0, ge1175_0, ul1175_1, ge1175_1⟩ := k33_openF hMe1175
              have hv1175_0 := hcc1175 0 _ rfl
              rw [Nat.add_zero] at hv1175_0
              replace hv1175_0 := Option.some.inj (hv1175_0.symm.trans hx1175_0)
              injection hv1175_0 with hva_ hvn_ hvc_
              rw [hva_] at ge1175_0
              rw [hvc_] at ul1175_0
              have HL1175_0 := Aside0.mk (show Kd.V (Kd.int .i64) 3 _ w.heap.size _ _ ((rd_T33 l0 x12_1).f0) from Kd.V_mk ul1175_0 ge1175_0)
              clear hva_ hvn_ hvc_ ge1175_0 ul1175_0
              have hv1175_1 := hcc1175 1 _ rfl
              rw [add_field _ _ 1 (by omega)] at hv1175_1
              replace hv1175_1 := Option.some.inj (hv1175_1.symm.trans hx1175_1)
              injection hv1175_1 with hva_ hvn_ hvc_
              rw [hva_] at ge1175_1
              rw [hvc_] at ul1175_1
              have HL1175_1 := Aside0.mk (show Kd.V (Kd.int .i64) 3 _ w.heap.size _ _ ((rd_T33 l0 x12_1).f1) from Kd.V_mk ul1175_1 ge1175_1)
              clear hva_ hvn_ hvc_ ge1175_1 ul1175_1
              clear hcc1175 hce1175
              have HR1175_0 := Aside0.mk hi1175_0
              have HC1175_0 := Aside0.mk hl1175_0
              clear hi1175_0 hl1175_0
              have HR1175_1 := Aside0.mk hi1175_1
              have HC1175_1 := Aside0.mk hl1175_1
              clear hi1175_1 hl1175_1
              replace p1175 := eq_true p1175
              replace q1175 := eq_true q1175
              go_wp2_with (first | ((with_reducible refine gate_dst (N := 8) rfl ?_); refine bx_ 8 #[.slice none 0 0, .slice none 0 0] 33 ?_; intro gb1176 hg w32 hbox hb; replace HO_5 := Aside0.mk (Kd.N_below (Kd.N_elderB (by (with_reducible repeat (first | apply Kd.N_alloc | apply Kd.N_drewN | apply Kd.N_drew)); exact HO_5.out) gb1176 (Nat.le_of_eq hg.symm)) hb); replace HO_10 := Aside0.mk (Kd.V_below (Kd.V_elderB (by (with_reducible repeat (first | apply Kd.V_alloc | apply Kd.V_drewN | apply Kd.V_drew)); exact HO_10.out) gb1176 (Nat.le_of_eq hg.symm)) hb); replace HO_1169000 := Aside0.mk (Kd.V_below (Kd.V_elderB (by (with_reducible repeat (first | apply Kd.V_alloc | apply Kd.V_drewN | apply Kd.V_drew)); exact HO_1169000.out) gb1176 (Nat.le_of_eq hg.symm)) hb); replace HO_1169001 := Aside0.mk (Kd.V_below (Kd.V_elderB (by (with_reducible repeat (first | apply Kd.V_alloc | apply Kd.V_drewN | apply Kd.V_drew)); exact HO_1169001.out) gb1176 (Nat.le_of_eq hg.symm)) hb); replace HL1175_0 := Aside0.mk (Kd.V_below (Kd.V_elderB (by (with_reducible repeat (first | apply Kd.V_alloc | apply Kd.V_drewN | apply Kd.V_drew)); exact HL1175_0.out) gb1176 (Nat.le_of_eq hg.symm)) hb); replace HL1175_1 := Aside0.mk (Kd.V_below (Kd.V_elderB (by (with_reducible repeat (first | apply Kd.V_alloc | apply Kd.V_drewN | apply Kd.V_drew)); exact HL1175_1.out) gb1176 (Nat.le_of_eq hg.symm)) hb); replace HR1175_0 := Aside0.mk (Kd.C_below (by repeat (first | (with_reducible exact HR1175_0.out) | (with_reducible refine Kd.C_alloc ?_ _) | (with_reducible refine Kd.C_drewN ?_ _) | (with_reducible refine Kd.C_drew ?_) | exact HR1175_0.out)) hb); replace HR1175_1 := Aside0.mk (Kd.C_below (by repeat (first | (with_reducible exact HR1175_1.out) | (with_reducible refine Kd.C_alloc ?_ _) | (with_reducible refine Kd.C_drewN ?_ _) | (with_reducible refine Kd.C_drew ?_) | exact HR1175_1.out)) hb); have BK1176 := Aside0.mk hbox; have GW1176 := gw_ w hg; have GE1176 := GW1176; replace HB := b1_ hb; have NB1168_1176 := gN_ BK1168 hg; have NB1176_1168 := gP_ BK1168 hg; replace BK1168 := bb_ BK1168 hb; clear hb hbox hg; have hnb33 := NB1176_1168.out; have hnc33 := NB1168_1176.out; obtain ⟨hcz34_0, hcz34_1, hfz34_0, hfz34_1⟩ := c2_ BK1176; obtain ⟨hcz35_0, hcz35_1, hfz35_0, hfz35_1⟩ := c2_ BK1168) | ((with_reducible refine gate_callee (f := 125) rfl ?_); refine gL_ (some 18) Try.func125 #[.agg #[.slice A1175_0 ((rd_T33 l0 x12_1).f0).length c1175_0, .slice A1175_1 ((rd_T33 l0 x12_1).f1).length c1175_1], .agg #[.slice A1_0 l1_0.length c1_0, .slice A1_1 l1_1.length c1_1]] rfl qa_ ?_; (with_reducible refine (spec_SameSurface.calls k1 _ _ ((rd_T33 l0 x12_1).f0) _ _ ((rd_T33 l0 x12_1).f1) _ _ l1_0 _ _ l1_1 false _ ?side1 ?side2 ?side3 ?side4 ?side5 ?side6 ?side7 ?side8 A9.out).mono ?_); (case side1 => repeat (first | exact ((Kd.V_reads' (by (with_reducible repeat (first | apply Kd.V_alloc | apply Kd.V_drewN | apply Kd.V_drew)); exact (Kd.V_mono (Kd.V_far (p := ⟨gb1176, 1, none⟩) (Kd.V_far (p := ⟨gb1176, 0, none⟩) (Kd.V_mono HL1175_0.out (fun k_ hk => (⟨hk, hk.2⟩ : _ ∧ k_ ≠ gb1176))) (fun _ hk => hk.2) (.slice A1175_0 ((rd_T33 l0 x12_1).f0).length c1175_0)) (fun _ hk => hk.2) (.slice A1175_1 ((rd_T33 l0 x12_1).f1).length c1175_1)) (fun _ h_ => h_.1)))).2.2) | (with_reducible refine Kd.C_alloc ?_ _) | (with_reducible refine Kd.C_drewN ?_ _) | (with_reducible refine Kd.C_drew ?_))); (case side2 => exact HC1175_0.out); (case side3 => repeat (first | exact ((Kd.V_reads' (by (with_reducible repeat (first | apply Kd.V_alloc | apply Kd.V_drewN | apply Kd.V_drew)); exact (Kd.V_mono (Kd.V_far (p := ⟨gb1176, 1, none⟩) (Kd.V_far (p := ⟨gb1176, 0, none⟩) (Kd.V_mono HL1175_1.out (fun k_ hk => (⟨hk, hk.2⟩ : _ ∧ k_ ≠ gb1176))) (fun _ hk => hk.2) (.slice A1175_0 ((rd_T33 l0 x12_1).f0).length c1175_0)) (fun _ hk => hk.2) (.slice A1175_1 ((rd_T33 l0 x12_1).f1).length c1175_1)) (fun _ h_ => h_.1)))).2.2) | (with_reducible refine Kd.C_alloc ?_ _) | (with_reducible refine Kd.C_drewN ?_ _) | (with_reducible refine Kd.C_drew ?_))); (case side4 => exact HC1175_1.out); (case side5 => refine (Kd.V_reads' (e := 3) (base := w.heap.size) (ok := fun k_ => ((((P0_ k_ ∨ P1_0_ k_ ∨ P1_1_ k_) ∨ w.heap.size ≤ k_) ∧ (some k_ ≠ (u5 : Value).ownBlock ∧ k_ ≠ gb1168)) ∧ k_ ≠ gb1176)) (n := l1_0.length) (c := c1_0) ?_).2.2; exact (by (with_reducible repeat (first | apply Kd.V_alloc | apply Kd.V_drewN | apply Kd.V_drew)); exact (Kd.V_mono (Kd.V_far (p := ⟨gb1176, 1, none⟩) (Kd.V_far (p := ⟨gb1176, 0, none⟩) (Kd.V_mono HO_1169000.out (fun k_ hk => (⟨hk, hk.2⟩ : _ ∧ k_ ≠ gb1176))) (fun _ hk => hk.2) (.slice A1175_0 ((rd_T33 l0 x12_1).f0).length c1175_0)) (fun _ hk => hk.2) (.slice A1175_1 ((rd_T33 l0 x12_1).f1).length c1175_1)) (fun _ h_ => h_.1)))); (case side6 => exact (Kd.V_reads' HO_1169000.out).2.1); (case side7 => refine (Kd.V_reads' (e := 3) (base := w.heap.size) (ok := fun k_ => ((((P0_ k_ ∨ P1_0_ k_ ∨ P1_1_ k_) ∨ w.heap.size ≤ k_) ∧ (some k_ ≠ (u5 : Value).ownBlock ∧ k_ ≠ gb1168)) ∧ k_ ≠ gb1176)) (n := l1_1.length) (c := c1_1) ?_).2.2; exact (by (with_reducible repeat (first | apply Kd.V_alloc | apply Kd.V_drewN | apply Kd.V_drew)); exact (Kd.V_mono (Kd.V_far (p := ⟨gb1176, 1, none⟩) (Kd.V_far (p := ⟨gb1176, 0, none⟩) (Kd.V_mono HO_1169001.out (fun k_ hk => (⟨hk, hk.2⟩ : _ ∧ k_ ≠ gb1176))) (fun _ hk => hk.2) (.slice A1175_0 ((rd_T33 l0 x12_1).f0).length c1175_0)) (fun _ hk => hk.2) (.slice A1175_1 ((rd_T33 l0 x12_1).f1).length c1175_1)) (fun _ h_ => h_.1)))); (case side8 => exact (Kd.V_reads' HO_1169001.out).2.1); rintro e w36 ⟨rfl, hb⟩; refine ⟨_, rfl, ?_⟩; replace HO_5 := Aside0.mk (Kd.N_below (by (with_reducible repeat (first | apply Kd.N_alloc | apply Kd.N_drewN | apply Kd.N_drew)); exact (Kd.N_mono (Kd.N_far (p := ⟨gb1176, 1, none⟩) (Kd.N_far (p := ⟨gb1176, 0, none⟩) (Kd.N_mono HO_5.out (fun k_ hk => (⟨hk, hk.2⟩ : _ ∧ k_ ≠ gb1176))) (fun _ hk => hk.2) (.slice A1175_0 ((rd_T33 l0 x12_1).f0).length c1175_0)) (fun _ hk => hk.2) (.slice A1175_1 ((rd_T33 l0 x12_1).f1).length c1175_1)) (fun _ h_ => h_.1))) hb); replace HO_10 := Aside0.mk (Kd.V_below (by (with_reducible repeat (first | apply Kd.V_alloc | apply Kd.V_drewN | apply Kd.V_drew)); exact (Kd.V_mono (Kd.V_far (p := ⟨gb1176, 1, none⟩) (Kd.V_far (p := ⟨gb1176, 0, none⟩) (Kd.V_mono HO_10.out (fun k_ hk => (⟨hk, hk.2⟩ : _ ∧ k_ ≠ gb1176))) (fun _ hk => hk.2) (.slice A1175_0 ((rd_T33 l0 x12_1).f0).length c1175_0)) (fun _ hk => hk.2) (.slice A1175_1 ((rd_T33 l0 x12_1).f1).length c1175_1)) (fun _ h_ => h_.1))) hb); replace HO_1169000 := Aside0.mk (Kd.V_below (by (with_reducible repeat (first | apply Kd.V_alloc | apply Kd.V_drewN | apply Kd.V_drew)); exact (Kd.V_mono (Kd.V_far (p := ⟨gb1176, 1, none⟩) (Kd.V_far (p := ⟨gb1176, 0, none⟩) (Kd.V_mono HO_1169000.out (fun k_ hk => (⟨hk, hk.2⟩ : _ ∧ k_ ≠ gb1176))) (fun _ hk => hk.2) (.slice A1175_0 ((rd_T33 l0 x12_1).f0).length c1175_0)) (fun _ hk => hk.2) (.slice A1175_1 ((rd_T33 l0 x12_1).f1).length c1175_1)) (fun _ h_ => h_.1))) hb); replace HO_1169001 := Aside0.mk (Kd.V_below (by (with_reducible repeat (first | apply Kd.V_alloc | apply Kd.V_drewN | apply Kd.V_drew)); exact (Kd.V_mono (Kd.V_far (p := ⟨gb1176, 1, none⟩) (Kd.V_far (p := ⟨gb1176, 0, none⟩) (Kd.V_mono HO_1169001.out (fun k_ hk => (⟨hk, hk.2⟩ : _ ∧ k_ ≠ gb1176))) (fun _ hk => hk.2) (.slice A1175_0 ((rd_T33 l0 x12_1).f0).length c1175_0)) (fun _ hk => hk.2) (.slice A1175_1 ((rd_T33 l0 x12_1).f1).length c1175_1)) (fun _ h_ => h_.1))) hb); replace BK1168 := Aside0.mk (blk_below (g := gb1168) (o := .cells #[.slice A1_0 l1_0.length c1_0, .slice A1_1 l1_1.length c1_1] 33 (0, 0)) (by (with_reducible repeat (first | refine blk_drewN ?_ _ | refine blk_drew ?_ | refine blk_alloc ?_ _)); refine blk_far ?_ NB1168_1176.out _; (with_reducible repeat (first | refine blk_drewN ?_ _ | refine blk_drew ?_ | refine blk_alloc ?_ _)); refine blk_far ?_ NB1168_1176.out _; (with_reducible repeat (first | refine blk_drewN ?_ _ | refine blk_drew ?_ | refine blk_alloc ?_ _)); exact BK1168.out) hb); replace HR1175_0 := Aside0.mk (Kd.C_below ((Kd.V_reads' (by (with_reducible repeat (first | apply Kd.V_alloc | apply Kd.V_drewN | apply Kd.V_drew)); exact (Kd.V_mono (Kd.V_far (p := ⟨gb1176, 1, none⟩) (Kd.V_far (p := ⟨gb1176, 0, none⟩) (Kd.V_mono HL1175_0.out (fun k_ hk => (⟨hk, hk.2⟩ : _ ∧ k_ ≠ gb1176))) (fun _ hk => hk.2) (.slice A1175_0 ((rd_T33 l0 x12_1).f0).length c1175_0)) (fun _ hk => hk.2) (.slice A1175_1 ((rd_T33 l0 x12_1).f1).length c1175_1)) (fun _ h_ => h_.1)))).2.2) hb); replace HL1175_0 := Aside0.mk (Kd.V_below (by (with_reducible repeat (first | apply Kd.V_alloc | apply Kd.V_drewN | apply Kd.V_drew)); exact (Kd.V_mono (Kd.V_far (p := ⟨gb1176, 1, none⟩) (Kd.V_far (p := ⟨gb1176, 0, none⟩) (Kd.V_mono HL1175_0.out (fun k_ hk => (⟨hk, hk.2⟩ : _ ∧ k_ ≠ gb1176))) (fun _ hk => hk.2) (.slice A1175_0 ((rd_T33 l0 x12_1).f0).length c1175_0)) (fun _ hk => hk.2) (.slice A1175_1 ((rd_T33 l0 x12_1).f1).length c1175_1)) (fun _ h_ => h_.1))) hb); replace HR1175_1 := Aside0.mk (Kd.C_below ((Kd.V_reads' (by (with_reducible repeat (first | apply Kd.V_alloc | apply Kd.V_drewN | apply Kd.V_drew)); exact (Kd.V_mono (Kd.V_far (p := ⟨gb1176, 1, none⟩) (Kd.V_far (p := ⟨gb1176, 0, none⟩) (Kd.V_mono HL1175_1.out (fun k_ hk => (⟨hk, hk.2⟩ : _ ∧ k_ ≠ gb1176))) (fun _ hk => hk.2) (.slice A1175_0 ((rd_T33 l0 x12_1).f0).length c1175_0)) (fun _ hk => hk.2) (.slice A1175_1 ((rd_T33 l0 x12_1).f1).length c1175_1)) (fun _ h_ => h_.1)))).2.2) hb); replace HL1175_1 := Aside0.mk (Kd.V_below (by (with_reducible repeat (first | apply Kd.V_alloc | apply Kd.V_drewN | apply Kd.V_drew)); exact (Kd.V_mono (Kd.V_far (p := ⟨gb1176, 1, none⟩) (Kd.V_far (p := ⟨gb1176, 0, none⟩) (Kd.V_mono HL1175_1.out (fun k_ hk => (⟨hk, hk.2⟩ : _ ∧ k_ ≠ gb1176))) (fun _ hk => hk.2) (.slice A1175_0 ((rd_T33 l0 x12_1).f0).length c1175_0)) (fun _ hk => hk.2) (.slice A1175_1 ((rd_T33 l0 x12_1).f1).length c1175_1)) (fun _ h_ => h_.1))) hb); replace BK1176 := Aside0.mk (blk_below (g := gb1176) (o := .cells #[.slice A1175_0 ((rd_T33 l0 x12_1).f0).length c1175_0, .slice A1175_1 ((rd_T33 l0 x12_1).f1).length c1175_1] 33 (0, 0)) qp_ hb); replace HB := b1_ hb; clear hb; obtain ⟨hcz37_0, hcz37_1, hfz37_0, hfz37_1⟩ := c2_ BK1168; have hcz38_0 : w36.cell? ⟨gb1176, 0, none⟩ = some (.slice A1175_0 ((rd_T33 l0 x12_1).f0).length c1175_0) := cz0_ BK1176; have hcz38_1 : w36.cell? ⟨gb1176, 1, none⟩ = some (.slice A1175_1 ((rd_T33 l0 x12_1).f1).length c1175_1) := cz1_ BK1176; have hfz38_0 := blk_frozen BK1176.out 0; have hfz38_1 := blk_frozen BK1176.out 1) | (go_at_call 128; (with_reducible refine (spec_l03Before.calls k1 _ _ l1_0 _ _ l1_1 _ _ ((rd_T33 l0 x12_1).f0) _ _ ((rd_T33 l0 x12_1).f1) true _ ?side1 ?side2 ?side3 ?side4 ?side5 ?side6 ?side7 ?side8 A28.out).mono ?_); (case side1 => exact cw_ ((Kd.V_reads' HO_1169000.out).2.2)); (case side2 => exact (Kd.V_reads' HO_1169000.out).2.1); (case side3 => exact cw_ ((Kd.V_reads' HO_1169001.out).2.2)); (case side4 => exact (Kd.V_reads' HO_1169001.out).2.1); (case side5 => repeat (first | exact (by repeat (first | (with_reducible exact HR1175_0.out) | (with_reducible refine Kd.C_alloc ?_ _) | (with_reducible refine Kd.C_drewN ?_ _) | (with_reducible refine Kd.C_drew ?_) | exact HR1175_0.out)) | (with_reducible refine Kd.C_alloc ?_ _) | (with_reducible refine Kd.C_drewN ?_ _) | (with_reducible refine Kd.C_drew ?_))); (case side6 => exact HC1175_0.out); (case side7 => repeat (first | exact (by repeat (first | (with_reducible exact HR1175_1.out) | (with_reducible refine Kd.C_alloc ?_ _) | (with_reducible refine Kd.C_drewN ?_ _) | (with_reducible refine Kd.C_drew ?_) | exact HR1175_1.out)) | (with_reducible refine Kd.C_alloc ?_ _) | (with_reducible refine Kd.C_drewN ?_ _) | (with_reducible refine Kd.C_drew ?_))); (case side8 => exact HC1175_1.out); rintro e w39 ⟨rfl, hb⟩; replace HO_5 := Aside0.mk (Kd.N_below (by (with_reducible repeat (first | apply Kd.N_alloc | apply Kd.N_drewN | apply Kd.N_drew)); exact HO_5.out) hb); replace HO_10 := Aside0.mk (Kd.V_below (by (with_reducible repeat (first | apply Kd.V_alloc | apply Kd.V_drewN | apply Kd.V_drew)); exact HO_10.out) hb); replace HO_1169000 := Aside0.mk (Kd.V_below (by (with_reducible repeat (first | apply Kd.V_alloc | apply Kd.V_drewN | apply Kd.V_drew)); exact HO_1169000.out) hb); replace HO_1169001 := Aside0.mk (Kd.V_below (by (with_reducible repeat (first | apply Kd.V_alloc | apply Kd.V_drewN | apply Kd.V_drew)); exact HO_1169001.out) hb); replace HL1175_0 := Aside0.mk (Kd.V_below (by (with_reducible repeat (first | apply Kd.V_alloc | apply Kd.V_drewN | apply Kd.V_drew)); exact HL1175_0.out) hb); replace HL1175_1 := Aside0.mk (Kd.V_below (by (with_reducible repeat (first | apply Kd.V_alloc | apply Kd.V_drewN | apply Kd.V_drew)); exact HL1175_1.out) hb); replace BK1168 := bb_ BK1168 hb; replace HR1175_0 := Aside0.mk (Kd.C_below (by repeat (first | (with_reducible exact HR1175_0.out) | (with_reducible refine Kd.C_alloc ?_ _) | (with_reducible refine Kd.C_drewN ?_ _) | (with_reducible refine Kd.C_drew ?_) | exact HR1175_0.out)) hb); replace HR1175_1 := Aside0.mk (Kd.C_below (by repeat (first | (with_reducible exact HR1175_1.out) | (with_reducible refine Kd.C_alloc ?_ _) | (with_reducible refine Kd.C_drewN ?_ _) | (with_reducible refine Kd.C_drew ?_) | exact HR1175_1.out)) hb); replace BK1176 := bb_ BK1176 hb; replace HB := b1_ hb; clear hb; obtain ⟨hcz40_0, hcz40_1, hfz40_0, hfz40_1⟩ := c2_ BK1168) | ((with_reducible refine gate_builtin (b := .append) (xs := #[.tmp 26, .tmp 28]) rfl ?_); at_builtin; refine Kd.N_append k33 (w0 := w) w.heap.size rfl (.tmp 26) (.tmp 28) 25 33 (.agg #[(.slice none 0 0), (.slice none 0 0)]) 48 rfl Try.underlying25 info33 rfl (by decide) (by omega) u5 x5_1 (⟨l1_0, l1_1⟩ : S33) [.slice A1_0 l1_0.length c1_0, .slice A1_1 l1_1.length c1_1] (fun k_ => ((P0_ k_ ∨ P1_0_ k_ ∨ P1_1_ k_) ∨ w.heap.size ≤ k_) ∧ k_ ≠ gb1168 ∧ k_ ≠ gb1176) (fun k_ => ((fun k_ => ((P0_ k_ ∨ P1_0_ k_ ∨ P1_1_ k_) ∨ w.heap.size ≤ k_) ∧ k_ ≠ gb1168 ∧ k_ ≠ gb1176)) k_ ∧ some k_ ≠ (u5 : Value).ownBlock) rfl rfl ?aP (fun _ hk => hk) ?aF ?aO ?aB ?aS ?aL ?_; (case aP => exact (k33_mkF _ _ (⟨l1_0, l1_1⟩ : S33) (Kd.V_reads' (Kd.V_mono (ok' := (fun k_ => ((fun k_ => ((P0_ k_ ∨ P1_0_ k_ ∨ P1_1_ k_) ∨ w.heap.size ≤ k_) ∧ k_ ≠ gb1168 ∧ k_ ≠ gb1176)) k_ ∧ some k_ ≠ (u5 : Value).ownBlock)) (HO_1169000.out) (fun k_ hk => ⟨⟨hk.1.1, ⟨hk.1.2.2, hk.2⟩⟩, hk.1.2.1⟩))).2.1 (Kd.V_F (Kd.V_mono (ok' := (fun k_ => ((fun k_ => ((P0_ k_ ∨ P1_0_ k_ ∨ P1_1_ k_) ∨ w.heap.size ≤ k_) ∧ k_ ≠ gb1168 ∧ k_ ≠ gb1176)) k_ ∧ some k_ ≠ (u5 : Value).ownBlock)) (HO_1169000.out) (fun k_ hk => ⟨⟨hk.1.1, ⟨hk.1.2.2, hk.2⟩⟩, hk.1.2.1⟩))) (Kd.V_reads' (Kd.V_mono (ok' := (fun k_ => ((fun k_ => ((P0_ k_ ∨ P1_0_ k_ ∨ P1_1_ k_) ∨ w.heap.size ≤ k_) ∧ k_ ≠ gb1168 ∧ k_ ≠ gb1176)) k_ ∧ some k_ ≠ (u5 : Value).ownBlock)) (HO_1169001.out) (fun k_ hk => ⟨⟨hk.1.1, ⟨hk.1.2.2, hk.2⟩⟩, hk.1.2.1⟩))).2.1 (Kd.V_F (Kd.V_mono (ok' := (fun k_ => ((fun k_ => ((P0_ k_ ∨ P1_0_ k_ ∨ P1_1_ k_) ∨ w.heap.size ≤ k_) ∧ k_ ≠ gb1168 ∧ k_ ≠ gb1176)) k_ ∧ some k_ ≠ (u5 : Value).ownBlock)) (HO_1169001.out) (fun k_ hk => ⟨⟨hk.1.1, ⟨hk.1.2.2, hk.2⟩⟩, hk.1.2.1⟩))))); (case aB => exact hB_); (case aF => exact (fun k_ hk => ⟨(.inr (Nat.le_trans (below_size hB_) hk)), Kd.freshB (kk_ BK1168) k_ hk, Kd.freshB (kk_ BK1176) k_ hk⟩)); (case aO => exact (by (with_reducible repeat (first | apply Kd.N_alloc | apply Kd.N_drewN | apply Kd.N_drew)); exact Kd.N_mono HO_5.out (fun _ hk => ⟨hk.1.1, ⟨hk.1.2, hk.2⟩⟩))); (case aS => exact (below_size hB_)); (case aL => have := LMc30.out; omega); intro v1186 w41 ho hb hg hat; rw [← Ny1185.out] at ho; replace HO_10 := Aside0.mk (Kd.V_afterv (ok := (fun k_ => ((P0_ k_ ∨ P1_0_ k_ ∨ P1_1_ k_) ∨ w.heap.size ≤ k_) ∧ k_ ≠ gb1168 ∧ k_ ≠ gb1176)) (by (with_reducible repeat (first | apply Kd.V_alloc | apply Kd.V_drewN | apply Kd.V_drew)); exact Kd.V_mono HO_10.out (fun _ hk => ⟨⟨hk.1.1, ⟨hk.1.2.2, hk.2⟩⟩, hk.1.2.1⟩)) hg hat); replace HO_1169000 := Aside0.mk (Kd.V_afterv (ok := (fun k_ => ((P0_ k_ ∨ P1_0_ k_ ∨ P1_1_ k_) ∨ w.heap.size ≤ k_) ∧ k_ ≠ gb1168 ∧ k_ ≠ gb1176)) (by (with_reducible repeat (first | apply Kd.V_alloc | apply Kd.V_drewN | apply Kd.V_drew)); exact Kd.V_mono HO_1169000.out (fun _ hk => ⟨⟨hk.1.1, ⟨hk.1.2.2, hk.2⟩⟩, hk.1.2.1⟩)) hg hat); replace HO_1169001 := Aside0.mk (Kd.V_afterv (ok := (fun k_ => ((P0_ k_ ∨ P1_0_ k_ ∨ P1_1_ k_) ∨ w.heap.size ≤ k_) ∧ k_ ≠ gb1168 ∧ k_ ≠ gb1176)) (by (with_reducible repeat (first | apply Kd.V_alloc | apply Kd.V_drewN | apply Kd.V_drew)); exact Kd.V_mono HO_1169001.out (fun _ hk => ⟨⟨hk.1.1, ⟨hk.1.2.2, hk.2⟩⟩, hk.1.2.1⟩)) hg hat); replace BK1168 := Aside0.mk (blk_grown (kk_ BK1168) hg (Kd.N_away HO_5.out (fun _ hk => hk.1.2))); replace HL1175_0 := Aside0.mk (Kd.V_afterv (ok := (fun k_ => ((P0_ k_ ∨ P1_0_ k_ ∨ P1_1_ k_) ∨ w.heap.size ≤ k_) ∧ k_ ≠ gb1168 ∧ k_ ≠ gb1176)) (by (with_reducible repeat (first | apply Kd.V_alloc | apply Kd.V_drewN | apply Kd.V_drew)); exact Kd.V_mono HL1175_0.out (fun _ hk => ⟨⟨hk.1.1, ⟨hk.1.2.2, hk.2⟩⟩, hk.1.2.1⟩)) hg hat); replace HL1175_1 := Aside0.mk (Kd.V_afterv (ok := (fun k_ => ((P0_ k_ ∨ P1_0_ k_ ∨ P1_1_ k_) ∨ w.heap.size ≤ k_) ∧ k_ ≠ gb1168 ∧ k_ ≠ gb1176)) (by (with_reducible repeat (first | apply Kd.V_alloc | apply Kd.V_drewN | apply Kd.V_drew)); exact Kd.V_mono HL1175_1.out (fun _ hk => ⟨⟨hk.1.1, ⟨hk.1.2.2, hk.2⟩⟩, hk.1.2.1⟩)) hg hat); replace BK1176 := Aside0.mk (blk_grown (kk_ BK1176) hg (Kd.N_away HO_5.out (fun _ hk => hk.2))); replace HB := Aside0.mk hb; have HO1187 := Aside0.mk ho; clear HO_5; clear ho hb hg hat; have hcz42_0 : w41.cell? ⟨gb1176, 0, none⟩ = some (.slice A1175_0 ((rd_T33 l0 x12_1).f0).length c1175_0) := cz0_ BK1176; have hcz42_1 : w41.cell? ⟨gb1176, 1, none⟩ = some (.slice A1175_1 ((rd_T33 l0 x12_1).f1).length c1175_1) := cz1_ BK1176; have hfz42_0 := blk_frozen BK1176.out 0; have hfz42_1 := blk_frozen BK1176.out 1) | ((with_reducible refine gate_builtin (b := .append) (xs := #[.tmp 30, .tmp 32]) rfl ?_); at_builtin; refine Kd.N_append k33 (w0 := w) w.heap.size rfl (.tmp 30) (.tmp 32) 25 33 (.agg #[(.slice none 0 0), (.slice none 0 0)]) 48 rfl Try.underlying25 info33 rfl (by decide) (by omega) v1186 y1185 (⟨(rd_T33 l0 x12_1).f0, (rd_T33 l0 x12_1).f1⟩ : S33) [.slice A1175_0 ((rd_T33 l0 x12_1).f0).length c1175_0, .slice A1175_1 ((rd_T33 l0 x12_1).f1).length c1175_1] (fun k_ => ((P0_ k_ ∨ P1_0_ k_ ∨ P1_1_ k_) ∨ w.heap.size ≤ k_) ∧ k_ ≠ gb1168 ∧ k_ ≠ gb1176) (fun k_ => ((fun k_ => ((P0_ k_ ∨ P1_0_ k_ ∨ P1_1_ k_) ∨ w.heap.size ≤ k_) ∧ k_ ≠ gb1168 ∧ k_ ≠ gb1176)) k_ ∧ some k_ ≠ (v1186 : Value).ownBlock) rfl rfl ?aP (fun _ hk => hk) ?aF ?aO ?aB ?aS ?aL ?_; (case aP => exact (k33_mkF _ _ (⟨(rd_T33 l0 x12_1).f0, (rd_T33 l0 x12_1).f1⟩ : S33) (Kd.V_reads' (Kd.V_mono (ok' := (fun k_ => ((fun k_ => ((P0_ k_ ∨ P1_0_ k_ ∨ P1_1_ k_) ∨ w.heap.size ≤ k_) ∧ k_ ≠ gb1168 ∧ k_ ≠ gb1176)) k_ ∧ some k_ ≠ (v1186 : Value).ownBlock)) (HL1175_0.out) (fun k_ hk => ⟨⟨hk.1.1, ⟨hk.1.2.1, hk.1.2.2⟩⟩, hk.2⟩))).2.1 (Kd.V_F (Kd.V_mono (ok' := (fun k_ => ((fun k_ => ((P0_ k_ ∨ P1_0_ k_ ∨ P1_1_ k_) ∨ w.heap.size ≤ k_) ∧ k_ ≠ gb1168 ∧ k_ ≠ gb1176)) k_ ∧ some k_ ≠ (v1186 : Value).ownBlock)) (HL1175_0.out) (fun k_ hk => ⟨⟨hk.1.1, ⟨hk.1.2.1, hk.1.2.2⟩⟩, hk.2⟩))) (Kd.V_reads' (Kd.V_mono (ok' := (fun k_ => ((fun k_ => ((P0_ k_ ∨ P1_0_ k_ ∨ P1_1_ k_) ∨ w.heap.size ≤ k_) ∧ k_ ≠ gb1168 ∧ k_ ≠ gb1176)) k_ ∧ some k_ ≠ (v1186 : Value).ownBlock)) (HL1175_1.out) (fun k_ hk => ⟨⟨hk.1.1, ⟨hk.1.2.1, hk.1.2.2⟩⟩, hk.2⟩))).2.1 (Kd.V_F (Kd.V_mono (ok' := (fun k_ => ((fun k_ => ((P0_ k_ ∨ P1_0_ k_ ∨ P1_1_ k_) ∨ w.heap.size ≤ k_) ∧ k_ ≠ gb1168 ∧ k_ ≠ gb1176)) k_ ∧ some k_ ≠ (v1186 : Value).ownBlock)) (HL1175_1.out) (fun k_ hk => ⟨⟨hk.1.1, ⟨hk.1.2.1, hk.1.2.2⟩⟩, hk.2⟩))))); (case aB => exact hB_); (case aF => exact (fun k_ hk => ⟨(.inr (Nat.le_trans (below_size hB_) hk)), Kd.freshB (kk_ BK1168) k_ hk, Kd.freshB (kk_ BK1176) k_ hk⟩)); (case aO => exact (by (with_reducible repeat (first | apply Kd.N_alloc | apply Kd.N_drewN | apply Kd.N_drew)); exact HO1187.out)); (case aS => exact (below_size hB_)); (case aL => have := LMc31.out; omega); intro v1189 w43 ho hb hg hat; rw [← Ny1188.out] at ho; replace HO_10 := Aside0.mk (Kd.V_afterv (ok := (fun k_ => ((P0_ k_ ∨ P1_0_ k_ ∨ P1_1_ k_) ∨ w.heap.size ≤ k_) ∧ k_ ≠ gb1168 ∧ k_ ≠ gb1176)) (by (with_reducible repeat (first | apply Kd.V_alloc | apply Kd.V_drewN | apply Kd.V_drew)); exact HO_10.out) hg hat); replace HO_1169000 := Aside0.mk (Kd.V_afterv (ok := (fun k_ => ((P0_ k_ ∨ P1_0_ k_ ∨ P1_1_ k_) ∨ w.heap.size ≤ k_) ∧ k_ ≠ gb1168 ∧ k_ ≠ gb1176)) (by (with_reducible repeat (first | apply Kd.V_alloc | apply Kd.V_drewN | apply Kd.V_drew)); exact HO_1169000.out) hg hat); replace HO_1169001 := Aside0.mk (Kd.V_afterv (ok := (fun k_ => ((P0_ k_ ∨ P1_0_ k_ ∨ P1_1_ k_) ∨ w.heap.size ≤ k_) ∧ k_ ≠ gb1168 ∧ k_ ≠ gb1176)) (by (with_reducible repeat (first | apply Kd.V_alloc | apply Kd.V_drewN | apply Kd.V_drew)); exact HO_1169001.out) hg hat); replace BK1168 := Aside0.mk (blk_grown (kk_ BK1168) hg (Kd.N_away HO1187.out (fun _ hk => hk.2.1))); replace HL1175_0 := Aside0.mk (Kd.V_afterv (ok := (fun k_ => ((P0_ k_ ∨ P1_0_ k_ ∨ P1_1_ k_) ∨ w.heap.size ≤ k_) ∧ k_ ≠ gb1168 ∧ k_ ≠ gb1176)) (by (with_reducible repeat (first | apply Kd.V_alloc | apply Kd.V_drewN | apply Kd.V_drew)); exact HL1175_0.out) hg hat); replace HL1175_1 := Aside0.mk (Kd.V_afterv (ok := (fun k_ => ((P0_ k_ ∨ P1_0_ k_ ∨ P1_1_ k_) ∨ w.heap.size ≤ k_) ∧ k_ ≠ gb1168 ∧ k_ ≠ gb1176)) (by (with_reducible repeat (first | apply Kd.V_alloc | apply Kd.V_drewN | apply Kd.V_drew)); exact HL1175_1.out) hg hat); replace BK1176 := Aside0.mk (blk_grown (kk_ BK1176) hg (Kd.N_away HO1187.out (fun _ hk => hk.2.2))); replace HB := Aside0.mk hb; have HO1190 := Aside0.mk ho; clear HO1187; clear ho hb hg hat))
              go_roundg k1
              case measure => have := HK1.out; omega
              case rel => exact ⟨(y1188), (true), (wrap64 (x12_1 + 1)), qc_, qc_, H', ⟨by have := HK1.out; omega⟩, ⟨by (with_reducible repeat (first | apply Kd.N_alloc | apply Kd.N_drewN | apply Kd.N_drew)); exact Kd.N_mono HO1190.out (fun _ hk => ⟨hk.1, hk.2.1⟩)⟩, ⟨by (with_reducible repeat (first | apply Kd.V_alloc | apply Kd.V_drewN | apply Kd.V_drew)); exact Kd.V_mono HO_10.out (fun _ hk => ⟨hk.1.1, ⟨hk.2, hk.1.2.1⟩⟩)⟩, ⟨by (with_reducible repeat (first | apply Kd.V_alloc | apply Kd.V_drewN | apply Kd.V_drew)); exact Kd.V_mono HO_1169000.out (fun _ hk => ⟨hk.1.1, ⟨hk.2, hk.1.2.1⟩⟩)⟩, ⟨by (with_reducible repeat (first | apply Kd.V_alloc | apply Kd.V_drewN | apply Kd.V_drew)); exact Kd.V_mono HO_1169001.out (fun _ hk => ⟨hk.1.1, ⟨hk.2, hk.1.2.1⟩⟩)⟩, ⟨(kk_ BK1168)⟩, ⟨hB_⟩⟩
            · replace c29 := Bool.eq_false_iff.mpr c29
              subst c29
              have H1 : (if x5_1.length < 2932031007402 then (spec_l10Insert.l0 k1 (x5_1 ++ [(⟨(rd_T33 l0 x12_1).f0, (rd_T33 l0 x12_1).f1⟩ : S33)]) false l0 (l0.length : Int) (wrap64 (x12_1 + 1)) l1_0 l1_1) else (none)) = some r := by rw [if_neg (show ¬ (false = true) by decide)] at H; exact H
              clear H
              have H := H1
              clear H1
              have c44 := cp_ H
              replace H := ca_ H
              have LMc44 := Aside0.mk c44
              clear c44
              obtain ⟨y1191, hy1191⟩ : ∃ y_ : List (S33), y_ = (x5_1 ++ [(⟨(rd_T33 l0 x12_1).f0, (rd_T33 l0 x12_1).f1⟩ : S33)]) := ⟨_, rfl⟩
              replace H : (spec_l10Insert.l0 k1 y1191 false l0 (l0.length : Int) (wrap64 (x12_1 + 1)) l1_0 l1_1) = some r := by first | (rw [hy1191]; exact H) | exact H
              have Ny1191 := Aside0.mk hy1191
              clear hy1191
              have H' := Aside0.mk H
              clear H
              have p1175 : 0 ≤ (x12_1 : Int) := of_decide_eq_true qe_
              have q1175 : x12_1 < (l0.length : Int) := of_decide_eq_true qe_
              obtain ⟨ad1175, A1175_0, c1175_0, A1175_1, c1175_1, e1175, hx1175_0, hx1175_1, hl1175_0, hi1175_0, hl1175_1, hi1175_1⟩ := at_T33 (Kd.V_reads' HO_10.out).2.2 x12_1 p1175 q1175
              cases e1175
              obtain ⟨ce1175, hce1175, hMe1175, hcc1175⟩ := Kd.V_get HO_10.out z33 x12_1 p1175 (by first | exact q1175 | exact of_decide_eq_true qe_ | (have e_ := (Kd.V_reads' HO_10.out).1; omega))
              obtain ⟨ua1175_0, uc1175_0, ua1175_1, uc1175_1, rfl, ul1175_0, ge1175_0, ul1175_1, ge1175_1⟩ := k33_openF hMe1175
              have hv1175_0 := hcc1175 0 _ rfl
              rw [Nat.add_zero] at hv1175_0
              replace hv1175_0 := Option.some.inj (hv1175_0.symm.trans hx1175_0)
              injection hv1175_0 with hva_ hvn_ hvc_
              rw [hva_] at ge1175_0
              rw [hvc_] at ul1175_0
              have HL1175_0 := Aside0.mk (show Kd.V (Kd.int .i64) 3 _ w.heap.size _ _ ((rd_T33 l0 x12_1).f0) from Kd.V_mk ul1175_0 ge1175_0)
              clear hva_ hvn_ hvc_ ge1175_0 ul1175_0
              have hv1175_1 := hcc1175 1 _ rfl
              rw [add_field _ _ 1 (by omega)] at hv1175_1
              replace hv1175_1 := Option.some.inj (hv1175_1.symm.trans hx1175_1)
              injection hv1175_1 with hva_ hvn_ hvc_
              rw [hva_] at ge1175_1
              rw [hvc_] at ul1175_1
              have HL1175_1 := Aside0.mk (show Kd.V (Kd.int .i64) 3 _ w.heap.size _ _ ((rd_T33 l0 x12_1).f1) from Kd.V_mk ul1175_1 ge1175_1)
              clear hva_ hvn_ hvc_ ge1175_1 ul1175_1
              clear hcc1175 hce1175
              have HR1175_0 := Aside0.mk hi1175_0
              have HC1175_0 := Aside0.mk hl1175_0
              clear hi1175_0 hl1175_0
              have HR1175_1 := Aside0.mk hi1175_1
              have HC1175_1 := Aside0.mk hl1175_1
              clear hi1175_1 hl1175_1
              replace p1175 := eq_true p1175
              replace q1175 := eq_true q1175
              go_wp2_with (first | ((with_reducible refine gate_dst (N := 8) rfl ?_); refine bx_ 8 #[.slice none 0 0, .slice none 0 0] 33 ?_; intro gb1176 hg w45 hbox hb; replace HO_5 := Aside0.mk (Kd.N_below (Kd.N_elderB (by (with_reducible repeat (first | apply Kd.N_alloc | apply Kd.N_drewN | apply Kd.N_drew)); exact HO_5.out) gb1176 (Nat.le_of_eq hg.symm)) hb); replace HO_10 := Aside0.mk (Kd.V_below (Kd.V_elderB (by (with_reducible repeat (first | apply Kd.V_alloc | apply Kd.V_drewN | apply Kd.V_drew)); exact HO_10.out) gb1176 (Nat.le_of_eq hg.symm)) hb); replace HO_1169000 := Aside0.mk (Kd.V_below (Kd.V_elderB (by (with_reducible repeat (first | apply Kd.V_alloc | apply Kd.V_drewN | apply Kd.V_drew)); exact HO_1169000.out) gb1176 (Nat.le_of_eq hg.symm)) hb); replace HO_1169001 := Aside0.mk (Kd.V_below (Kd.V_elderB (by (with_reducible repeat (first | apply Kd.V_alloc | apply Kd.V_drewN | apply Kd.V_drew)); exact HO_1169001.out) gb1176 (Nat.le_of_eq hg.symm)) hb); replace HL1175_0 := Aside0.mk (Kd.V_below (Kd.V_elderB (by (with_reducible repeat (first | apply Kd.V_alloc | apply Kd.V_drewN | apply Kd.V_drew)); exact HL1175_0.out) gb1176 (Nat.le_of_eq hg.symm)) hb); replace HL1175_1 := Aside0.mk (Kd.V_below (Kd.V_elderB (by (with_reducible repeat (first | apply Kd.V_alloc | apply Kd.V_drewN | apply Kd.V_drew)); exact HL1175_1.out) gb1176 (Nat.le_of_eq hg.symm)) hb); replace HR1175_0 := Aside0.mk (Kd.C_below (by repeat (first | (with_reducible exact HR1175_0.out) | (with_reducible refine Kd.C_alloc ?_ _) | (with_reducible refine Kd.C_drewN ?_ _) | (with_reducible refine Kd.C_drew ?_) | exact HR1175_0.out)) hb); replace HR1175_1 := Aside0.mk (Kd.C_below (by repeat (first | (with_reducible exact HR1175_1.out) | (with_reducible refine Kd.C_alloc ?_ _) | (with_reducible refine Kd.C_drewN ?_ _) | (with_reducible refine Kd.C_drew ?_) | exact HR1175_1.out)) hb); have BK1176 := Aside0.mk hbox; have GW1176 := gw_ w hg; have GE1176 := GW1176; replace HB := b1_ hb; have NB1168_1176 := gN_ BK1168 hg; have NB1176_1168 := gP_ BK1168 hg; replace BK1168 := bb_ BK1168 hb; clear hb hbox hg; have hnb46 := NB1176_1168.out; have hnc46 := NB1168_1176.out; obtain ⟨hcz47_0, hcz47_1, hfz47_0, hfz47_1⟩ := c2_ BK1176; obtain ⟨hcz48_0, hcz48_1, hfz48_0, hfz48_1⟩ := c2_ BK1168) | ((with_reducible refine gate_callee (f := 125) rfl ?_); refine gL_ (some 18) Try.func125 #[.agg #[.slice A1175_0 ((rd_T33 l0 x12_1).f0).length c1175_0, .slice A1175_1 ((rd_T33 l0 x12_1).f1).length c1175_1], .agg #[.slice A1_0 l1_0.length c1_0, .slice A1_1 l1_1.length c1_1]] rfl qa_ ?_; (with_reducible refine (spec_SameSurface.calls k1 _ _ ((rd_T33 l0 x12_1).f0) _ _ ((rd_T33 l0 x12_1).f1) _ _ l1_0 _ _ l1_1 false _ ?side1 ?side2 ?side3 ?side4 ?side5 ?side6 ?side7 ?side8 A9.out).mono ?_); (case side1 => repeat (first | exact ((Kd.V_reads' (by (with_reducible repeat (first | apply Kd.V_alloc | apply Kd.V_drewN | apply Kd.V_drew)); exact (Kd.V_mono (Kd.V_far (p := ⟨gb1176, 1, none⟩) (Kd.V_far (p := ⟨gb1176, 0, none⟩) (Kd.V_mono HL1175_0.out (fun k_ hk => (⟨hk, hk.2⟩ : _ ∧ k_ ≠ gb1176))) (fun _ hk => hk.2) (.slice A1175_0 ((rd_T33 l0 x12_1).f0).length c1175_0)) (fun _ hk => hk.2) (.slice A1175_1 ((rd_T33 l0 x12_1).f1).length c1175_1)) (fun _ h_ => h_.1)))).2.2) | (with_reducible refine Kd.C_alloc ?_ _) | (with_reducible refine Kd.C_drewN ?_ _) | (with_reducible refine Kd.C_drew ?_))); (case side2 => exact HC1175_0.out); (case side3 => repeat (first | exact ((Kd.V_reads' (by (with_reducible repeat (first | apply Kd.V_alloc | apply Kd.V_drewN | apply Kd.V_drew)); exact (Kd.V_mono (Kd.V_far (p := ⟨gb1176, 1, none⟩) (Kd.V_far (p := ⟨gb1176, 0, none⟩) (Kd.V_mono HL1175_1.out (fun k_ hk => (⟨hk, hk.2⟩ : _ ∧ k_ ≠ gb1176))) (fun _ hk => hk.2) (.slice A1175_0 ((rd_T33 l0 x12_1).f0).length c1175_0)) (fun _ hk => hk.2) (.slice A1175_1 ((rd_T33 l0 x12_1).f1).length c1175_1)) (fun _ h_ => h_.1)))).2.2) | (with_reducible refine Kd.C_alloc ?_ _) | (with_reducible refine Kd.C_drewN ?_ _) | (with_reducible refine Kd.C_drew ?_))); (case side4 => exact HC1175_1.out); (case side5 => refine (Kd.V_reads' (e := 3) (base := w.heap.size) (ok := fun k_ => ((((P0_ k_ ∨ P1_0_ k_ ∨ P1_1_ k_) ∨ w.heap.size ≤ k_) ∧ (some k_ ≠ (u5 : Value).ownBlock ∧ k_ ≠ gb1168)) ∧ k_ ≠ gb1176)) (n := l1_0.length) (c := c1_0) ?_).2.2; exact (by (with_reducible repeat (first | apply Kd.V_alloc | apply Kd.V_drewN | apply Kd.V_drew)); exact (Kd.V_mono (Kd.V_far (p := ⟨gb1176, 1, none⟩) (Kd.V_far (p := ⟨gb1176, 0, none⟩) (Kd.V_mono HO_1169000.out (fun k_ hk => (⟨hk, hk.2⟩ : _ ∧ k_ ≠ gb1176))) (fun _ hk => hk.2) (.slice A1175_0 ((rd_T33 l0 x12_1).f0).length c1175_0)) (fun _ hk => hk.2) (.slice A1175_1 ((rd_T33 l0 x12_1).f1).length c1175_1)) (fun _ h_ => h_.1)))); (case side6 => exact (Kd.V_reads' HO_1169000.out).2.1); (case side7 => refine (Kd.V_reads' (e := 3) (base := w.heap.size) (ok := fun k_ => ((((P0_ k_ ∨ P1_0_ k_ ∨ P1_1_ k_) ∨ w.heap.size ≤ k_) ∧ (some k_ ≠ (u5 : Value).ownBlock ∧ k_ ≠ gb1168)) ∧ k_ ≠ gb1176)) (n := l1_1.length) (c := c1_1) ?_).2.2; exact (by (with_reducible repeat (first | apply Kd.V_alloc | apply Kd.V_drewN | apply Kd.V_drew)); exact (Kd.V_mono (Kd.V_far (p := ⟨gb1176, 1, none⟩) (Kd.V_far (p := ⟨gb1176, 0, none⟩) (Kd.V_mono HO_1169001.out (fun k_ hk => (⟨hk, hk.2⟩ : _ ∧ k_ ≠ gb1176))) (fun _ hk => hk.2) (.slice A1175_0 ((rd_T33 l0 x12_1).f0).length c1175_0)) (fun _ hk => hk.2) (.slice A1175_1 ((rd_T33 l0 x12_1).f1).length c1175_1)) (fun _ h_ => h_.1)))); (case side8 => exact (Kd.V_reads' HO_1169001.out).2.1); rintro e w49 ⟨rfl, hb⟩; refine ⟨_, rfl, ?_⟩; replace HO_5 := Aside0.mk (Kd.N_below (by (with_reducible repeat (first | apply Kd.N_alloc | apply Kd.N_drewN | apply Kd.N_drew)); exact (Kd.N_mono (Kd.N_far (p := ⟨gb1176, 1, none⟩) (Kd.N_far (p := ⟨gb1176, 0, none⟩) (Kd.N_mono HO_5.out (fun k_ hk => (⟨hk, hk.2⟩ : _ ∧ k_ ≠ gb1176))) (fun _ hk => hk.2) (.slice A1175_0 ((rd_T33 l0 x12_1).f0).length c1175_0)) (fun _ hk => hk.2) (.slice A1175_1 ((rd_T33 l0 x12_1).f1).length c1175_1)) (fun _ h_ => h_.1))) hb); replace HO_10 := Aside0.mk (Kd.V_below (by (with_reducible repeat (first | apply Kd.V_alloc | apply Kd.V_drewN | apply Kd.V_drew)); exact (Kd.V_mono (Kd.V_far (p := ⟨gb1176, 1, none⟩) (Kd.V_far (p := ⟨gb1176, 0, none⟩) (Kd.V_mono HO_10.out (fun k_ hk => (⟨hk, hk.2⟩ : _ ∧ k_ ≠ gb1176))) (fun _ hk => hk.2) (.slice A1175_0 ((rd_T33 l0 x12_1).f0).length c1175_0)) (fun _ hk => hk.2) (.slice A1175_1 ((rd_T33 l0 x12_1).f1).length c1175_1)) (fun _ h_ => h_.1))) hb); replace HO_1169000 := Aside0.mk (Kd.V_below (by (with_reducible repeat (first | apply Kd.V_alloc | apply Kd.V_drewN | apply Kd.V_drew)); exact (Kd.V_mono (Kd.V_far (p := ⟨gb1176, 1, none⟩) (Kd.V_far (p := ⟨gb1176, 0, none⟩) (Kd.V_mono HO_1169000.out (fun k_ hk => (⟨hk, hk.2⟩ : _ ∧ k_ ≠ gb1176))) (fun _ hk => hk.2) (.slice A1175_0 ((rd_T33 l0 x12_1).f0).length c1175_0)) (fun _ hk => hk.2) (.slice A1175_1 ((rd_T33 l0 x12_1).f1).length c1175_1)) (fun _ h_ => h_.1))) hb); replace HO_1169001 := Aside0.mk (Kd.V_below (by (with_reducible repeat (first | apply Kd.V_alloc | apply Kd.V_drewN | apply Kd.V_drew)); exact (Kd.V_mono (Kd.V_far (p := ⟨gb1176, 1, none⟩) (Kd.V_far (p := ⟨gb1176, 0, none⟩) (Kd.V_mono HO_1169001.out (fun k_ hk => (⟨hk, hk.2⟩ : _ ∧ k_ ≠ gb1176))) (fun _ hk => hk.2) (.slice A1175_0 ((rd_T33 l0 x12_1).f0).length c1175_0)) (fun _ hk => hk.2) (.slice A1175_1 ((rd_T33 l0 x12_1).f1).length c1175_1)) (fun _ h_ => h_.1))) hb); replace BK1168 := Aside0.mk (blk_below (g := gb1168) (o := .cells #[.slice A1_0 l1_0.length c1_0, .slice A1_1 l1_1.length c1_1] 33 (0, 0)) (by (with_reducible repeat (first | refine blk_drewN ?_ _ | refine blk_drew ?_ | refine blk_alloc ?_ _)); refine blk_far ?_ NB1168_1176.out _; (with_reducible repeat (first | refine blk_drewN ?_ _ | refine blk_drew ?_ | refine blk_alloc ?_ _)); refine blk_far ?_ NB1168_1176.out _; (with_reducible repeat (first | refine blk_drewN ?_ _ | refine blk_drew ?_ | refine blk_alloc ?_ _)); exact BK1168.out) hb); replace HR1175_0 := Aside0.mk (Kd.C_below ((Kd.V_reads' (by (with_reducible repeat (first | apply Kd.V_alloc | apply Kd.V_drewN | apply Kd.V_drew)); exact (Kd.V_mono (Kd.V_far (p := ⟨gb1176, 1, none⟩) (Kd.V_far (p := ⟨gb1176, 0, none⟩) (Kd.V_mono HL1175_0.out (fun k_ hk => (⟨hk, hk.2⟩ : _ ∧ k_ ≠ gb1176))) (fun _ hk => hk.2) (.slice A1175_0 ((rd_T33 l0 x12_1).f0).length c1175_0)) (fun _ hk => hk.2) (.slice A1175_1 ((rd_T33 l0 x12_1).f1).length c1175_1)) (fun _ h_ => h_.1)))).2.2) hb); replace HL1175_0 := Aside0.mk (Kd.V_below (by (with_reducible repeat (first | apply Kd.V_alloc | apply Kd.V_drewN | apply Kd.V_drew)); exact (Kd.V_mono (Kd.V_far (p := ⟨gb1176, 1, none⟩) (Kd.V_far (p := ⟨gb1176, 0, none⟩) (Kd.V_mono HL1175_0.out (fun k_ hk => (⟨hk, hk.2⟩ : _ ∧ k_ ≠ gb1176))) (fun _ hk => hk.2) (.slice A1175_0 ((rd_T33 l0 x12_1).f0).length c1175_0)) (fun _ hk => hk.2) (.slice A1175_1 ((rd_T33 l0 x12_1).f1).length c1175_1)) (fun _ h_ => h_.1))) hb); replace HR1175_1 := Aside0.mk (Kd.C_below ((Kd.V_reads' (by (with_reducible repeat (first | apply Kd.V_alloc | apply Kd.V_drewN | apply Kd.V_drew)); exact (Kd.V_mono (Kd.V_far (p := ⟨gb1176, 1, none⟩) (Kd.V_far (p := ⟨gb1176, 0, none⟩) (Kd.V_mono HL1175_1.out (fun k_ hk => (⟨hk, hk.2⟩ : _ ∧ k_ ≠ gb1176))) (fun _ hk => hk.2) (.slice A1175_0 ((rd_T33 l0 x12_1).f0).length c1175_0)) (fun _ hk => hk.2) (.slice A1175_1 ((rd_T33 l0 x12_1).f1).length c1175_1)) (fun _ h_ => h_.1)))).2.2) hb); replace HL1175_1 := Aside0.mk (Kd.V_below (by (with_reducible repeat (first | apply Kd.V_alloc | apply Kd.V_drewN | apply Kd.V_drew)); exact (Kd.V_mono (Kd.V_far (p := ⟨gb1176, 1, none⟩) (Kd.V_far (p := ⟨gb1176, 0, none⟩) (Kd.V_mono HL1175_1.out (fun k_ hk => (⟨hk, hk.2⟩ : _ ∧ k_ ≠ gb1176))) (fun _ hk => hk.2) (.slice A1175_0 ((rd_T33 l0 x12_1).f0).length c1175_0)) (fun _ hk => hk.2) (.slice A1175_1 ((rd_T33 l0 x12_1).f1).length c1175_1)) (fun _ h_ => h_.1))) hb); replace BK1176 := Aside0.mk (blk_below (g := gb1176) (o := .cells #[.slice A1175_0 ((rd_T33 l0 x12_1).f0).length c1175_0, .slice A1175_1 ((rd_T33 l0 x12_1).f1).length c1175_1] 33 (0, 0)) qp_ hb); replace HB := b1_ hb; clear hb; obtain ⟨hcz50_0, hcz50_1, hfz50_0, hfz50_1⟩ := c2_ BK1168; have hcz51_0 : w49.cell? ⟨gb1176, 0, none⟩ = some (.slice A1175_0 ((rd_T33 l0 x12_1).f0).length c1175_0) := cz0_ BK1176; have hcz51_1 : w49.cell? ⟨gb1176, 1, none⟩ = some (.slice A1175_1 ((rd_T33 l0 x12_1).f1).length c1175_1) := cz1_ BK1176; have hfz51_0 := blk_frozen BK1176.out 0; have hfz51_1 := blk_frozen BK1176.out 1) | (go_at_call 128; (with_reducible refine (spec_l03Before.calls k1 _ _ l1_0 _ _ l1_1 _ _ ((rd_T33 l0 x12_1).f0) _ _ ((rd_T33 l0 x12_1).f1) false _ ?side1 ?side2 ?side3 ?side4 ?side5 ?side6 ?side7 ?side8 A28.out).mono ?_); (case side1 => exact cw_ ((Kd.V_reads' HO_1169000.out).2.2)); (case side2 => exact (Kd.V_reads' HO_1169000.out).2.1); (case side3 => exact cw_ ((Kd.V_reads' HO_1169001.out).2.2)); (case side4 => exact (Kd.V_reads' HO_1169001.out).2.1); (case side5 => repeat (first | exact (by repeat (first | (with_reducible exact HR1175_0.out) | (with_reducible refine Kd.C_alloc ?_ _) | (with_reducible refine Kd.C_drewN ?_ _) | (with_reducible refine Kd.C_drew ?_) | exact HR1175_0.out)) | (with_reducible refine Kd.C_alloc ?_ _) | (with_reducible refine Kd.C_drewN ?_ _) | (with_reducible refine Kd.C_drew ?_))); (case side6 => exact HC1175_0.out); (case side7 => repeat (first | exact (by repeat (first | (with_reducible exact HR1175_1.out) | (with_reducible refine Kd.C_alloc ?_ _) | (with_reducible refine Kd.C_drewN ?_ _) | (with_reducible refine Kd.C_drew ?_) | exact HR1175_1.out)) | (with_reducible refine Kd.C_alloc ?_ _) | (with_reducible refine Kd.C_drewN ?_ _) | (with_reducible refine Kd.C_drew ?_))); (case side8 => exact HC1175_1.out); rintro e w52 ⟨rfl, hb⟩; replace HO_5 := Aside0.mk (Kd.N_below (by (with_reducible repeat (first | apply Kd.N_alloc | apply Kd.N_drewN | apply Kd.N_drew)); exact HO_5.out) hb); replace HO_10 := Aside0.mk (Kd.V_below (by (with_reducible repeat (first | apply Kd.V_alloc | apply Kd.V_drewN | apply Kd.V_drew)); exact HO_10.out) hb); replace HO_1169000 := Aside0.mk (Kd.V_below (by (with_reducible repeat (first | apply Kd.V_alloc | apply Kd.V_drewN | apply Kd.V_drew)); exact HO_1169000.out) hb); replace HO_1169001 := Aside0.mk (Kd.V_below (by (with_reducible repeat (first | apply Kd.V_alloc | apply Kd.V_drewN | apply Kd.V_drew)); exact HO_1169001.out) hb); replace HL1175_0 := Aside0.mk (Kd.V_below (by (with_reducible repeat (first | apply Kd.V_alloc | apply Kd.V_drewN | apply Kd.V_drew)); exact HL1175_0.out) hb); replace HL1175_1 := Aside0.mk (Kd.V_below (by (with_reducible repeat (first | apply Kd.V_alloc | apply Kd.V_drewN | apply Kd.V_drew)); exact HL1175_1.out) hb); replace BK1168 := bb_ BK1168 hb; replace HR1175_0 := Aside0.mk (Kd.C_below (by repeat (first | (with_reducible exact HR1175_0.out) | (with_reducible refine Kd.C_alloc ?_ _) | (with_reducible refine Kd.C_drewN ?_ _) | (with_reducible refine Kd.C_drew ?_) | exact HR1175_0.out)) hb); replace HR1175_1 := Aside0.mk (Kd.C_below (by repeat (first | (with_reducible exact HR1175_1.out) | (with_reducible refine Kd.C_alloc ?_ _) | (with_reducible refine Kd.C_drewN ?_ _) | (with_reducible refine Kd.C_drew ?_) | exact HR1175_1.out)) hb); replace BK1176 := bb_ BK1176 hb; replace HB := b1_ hb; clear hb; have hcz53_0 : w52.cell? ⟨gb1176, 0, none⟩ = some (.slice A1175_0 ((rd_T33 l0 x12_1).f0).length c1175_0) := cz0_ BK1176; have hcz53_1 : w52.cell? ⟨gb1176, 1, none⟩ = some (.slice A1175_1 ((rd_T33 l0 x12_1).f1).length c1175_1) := cz1_ BK1176; have hfz53_0 := blk_frozen BK1176.out 0; have hfz53_1 := blk_frozen BK1176.out 1) | ((with_reducible refine gate_builtin (b := .append) (xs := #[.tmp 30, .tmp 32]) rfl ?_); at_builtin; refine Kd.N_append k33 (w0 := w) w.heap.size rfl (.tmp 30) (.tmp 32) 25 33 (.agg #[(.slice none 0 0), (.slice none 0 0)]) 48 rfl Try.underlying25 info33 rfl (by decide) (by omega) u5 x5_1 (⟨(rd_T33 l0 x12_1).f0, (rd_T33 l0 x12_1).f1⟩ : S33) [.slice A1175_0 ((rd_T33 l0 x12_1).f0).length c1175_0, .slice A1175_1 ((rd_T33 l0 x12_1).f1).length c1175_1] (fun k_ => ((P0_ k_ ∨ P1_0_ k_ ∨ P1_1_ k_) ∨ w.heap.size ≤ k_) ∧ k_ ≠ gb1168 ∧ k_ ≠ gb1176) (fun k_ => ((fun k_ => ((P0_ k_ ∨ P1_0_ k_ ∨ P1_1_ k_) ∨ w.heap.size ≤ k_) ∧ k_ ≠ gb1168 ∧ k_ ≠ gb1176)) k_ ∧ some k_ ≠ (u5 : Value).ownBlock) rfl rfl ?aP (fun _ hk => hk) ?aF ?aO ?aB ?aS ?aL ?_; (case aP => exact (k33_mkF _ _ (⟨(rd_T33 l0 x12_1).f0, (rd_T33 l0 x12_1).f1⟩ : S33) (Kd.V_reads' (Kd.V_mono (ok' := (fun k_ => ((fun k_ => ((P0_ k_ ∨ P1_0_ k_ ∨ P1_1_ k_) ∨ w.heap.size ≤ k_) ∧ k_ ≠ gb1168 ∧ k_ ≠ gb1176)) k_ ∧ some k_ ≠ (u5 : Value).ownBlock)) (HL1175_0.out) (fun k_ hk => ⟨⟨hk.1.1, ⟨hk.1.2.2, hk.2⟩⟩, hk.1.2.1⟩))).2.1 (Kd.V_F (Kd.V_mono (ok' := (fun k_ => ((fun k_ => ((P0_ k_ ∨ P1_0_ k_ ∨ P1_1_ k_) ∨ w.heap.size ≤ k_) ∧ k_ ≠ gb1168 ∧ k_ ≠ gb1176)) k_ ∧ some k_ ≠ (u5 : Value).ownBlock)) (HL1175_0.out) (fun k_ hk => ⟨⟨hk.1.1, ⟨hk.1.2.2, hk.2⟩⟩, hk.1.2.1⟩))) (Kd.V_reads' (Kd.V_mono (ok' := (fun k_ => ((fun k_ => ((P0_ k_ ∨ P1_0_ k_ ∨ P1_1_ k_) ∨ w.heap.size ≤ k_) ∧ k_ ≠ gb1168 ∧ k_ ≠ gb1176)) k_ ∧ some k_ ≠ (u5 : Value).ownBlock)) (HL1175_1.out) (fun k_ hk => ⟨⟨hk.1.1, ⟨hk.1.2.2, hk.2⟩⟩, hk.1.2.1⟩))).2.1 (Kd.V_F (Kd.V_mono (ok' := (fun k_ => ((fun k_ => ((P0_ k_ ∨ P1_0_ k_ ∨ P1_1_ k_) ∨ w.heap.size ≤ k_) ∧ k_ ≠ gb1168 ∧ k_ ≠ gb1176)) k_ ∧ some k_ ≠ (u5 : Value).ownBlock)) (HL1175_1.out) (fun k_ hk => ⟨⟨hk.1.1, ⟨hk.1.2.2, hk.2⟩⟩, hk.1.2.1⟩))))); (case aB => exact hB_); (case aF => exact (fun k_ hk => ⟨(.inr (Nat.le_trans (below_size hB_) hk)), Kd.freshB (kk_ BK1168) k_ hk, Kd.freshB (kk_ BK1176) k_ hk⟩)); (case aO => exact (by (with_reducible repeat (first | apply Kd.N_alloc | apply Kd.N_drewN | apply Kd.N_drew)); exact Kd.N_mono HO_5.out (fun _ hk => ⟨hk.1.1, ⟨hk.1.2, hk.2⟩⟩))); (case aS => exact (below_size hB_)); (case aL => have := LMc44.out; omega); intro v1192 w54 ho hb hg hat; rw [← Ny1191.out] at ho; replace HO_10 := Aside0.mk (Kd.V_afterv (ok := (fun k_ => ((P0_ k_ ∨ P1_0_ k_ ∨ P1_1_ k_) ∨ w.heap.size ≤ k_) ∧ k_ ≠ gb1168 ∧ k_ ≠ gb1176)) (by (with_reducible repeat (first | apply Kd.V_alloc | apply Kd.V_drewN | apply Kd.V_drew)); exact Kd.V_mono HO_10.out (fun _ hk => ⟨⟨hk.1.1, ⟨hk.1.2.2, hk.2⟩⟩, hk.1.2.1⟩)) hg hat); replace HO_1169000 := Aside0.mk (Kd.V_afterv (ok := (fun k_ => ((P0_ k_ ∨ P1_0_ k_ ∨ P1_1_ k_) ∨ w.heap.size ≤ k_) ∧ k_ ≠ gb1168 ∧ k_ ≠ gb1176)) (by (with_reducible repeat (first | apply Kd.V_alloc | apply Kd.V_drewN | apply Kd.V_drew)); exact Kd.V_mono HO_1169000.out (fun _ hk => ⟨⟨hk.1.1, ⟨hk.1.2.2, hk.2⟩⟩, hk.1.2.1⟩)) hg hat); replace HO_1169001 := Aside0.mk (Kd.V_afterv (ok := (fun k_ => ((P0_ k_ ∨ P1_0_ k_ ∨ P1_1_ k_) ∨ w.heap.size ≤ k_) ∧ k_ ≠ gb1168 ∧ k_ ≠ gb1176)) (by (with_reducible repeat (first | apply Kd.V_alloc | apply Kd.V_drewN | apply Kd.V_drew)); exact Kd.V_mono HO_1169001.out (fun _ hk => ⟨⟨hk.1.1, ⟨hk.1.2.2, hk.2⟩⟩, hk.1.2.1⟩)) hg hat); replace BK1168 := Aside0.mk (blk_grown (kk_ BK1168) hg (Kd.N_away HO_5.out (fun _ hk => hk.1.2))); replace HL1175_0 := Aside0.mk (Kd.V_afterv (ok := (fun k_ => ((P0_ k_ ∨ P1_0_ k_ ∨ P1_1_ k_) ∨ w.heap.size ≤ k_) ∧ k_ ≠ gb1168 ∧ k_ ≠ gb1176)) (by (with_reducible repeat (first | apply Kd.V_alloc | apply Kd.V_drewN | apply Kd.V_drew)); exact Kd.V_mono HL1175_0.out (fun _ hk => ⟨⟨hk.1.1, ⟨hk.1.2.2, hk.2⟩⟩, hk.1.2.1⟩)) hg hat); replace HL1175_1 := Aside0.mk (Kd.V_afterv (ok := (fun k_ => ((P0_ k_ ∨ P1_0_ k_ ∨ P1_1_ k_) ∨ w.heap.size ≤ k_) ∧ k_ ≠ gb1168 ∧ k_ ≠ gb1176)) (by (with_reducible repeat (first | apply Kd.V_alloc | apply Kd.V_drewN | apply Kd.V_drew)); exact Kd.V_mono HL1175_1.out (fun _ hk => ⟨⟨hk.1.1, ⟨hk.1.2.2, hk.2⟩⟩, hk.1.2.1⟩)) hg hat); replace BK1176 := Aside0.mk (blk_grown (kk_ BK1176) hg (Kd.N_away HO_5.out (fun _ hk => hk.2))); replace HB := Aside0.mk hb; have HO1193 := Aside0.mk ho; clear HO_5; clear ho hb hg hat))
              go_roundg k1
              case measure => have := HK1.out; omega
              case rel => exact ⟨(y1191), (false), (wrap64 (x12_1 + 1)), qc_, qc_, H', ⟨by have := HK1.out; omega⟩, ⟨by (with_reducible repeat (first | apply Kd.N_alloc | apply Kd.N_drewN | apply Kd.N_drew)); exact Kd.N_mono HO1193.out (fun _ hk => ⟨hk.1, hk.2.1⟩)⟩, ⟨by (with_reducible repeat (first | apply Kd.V_alloc | apply Kd.V_drewN | apply Kd.V_drew)); exact Kd.V_mono HO_10.out (fun _ hk => ⟨hk.1.1, ⟨hk.2, hk.1.2.1⟩⟩)⟩, ⟨by (with_reducible repeat (first | apply Kd.V_alloc | apply Kd.V_drewN | apply Kd.V_drew)); exact Kd.V_mono HO_1169000.out (fun _ hk => ⟨hk.1.1, ⟨hk.2, hk.1.2.1⟩⟩)⟩, ⟨by (with_reducible repeat (first | apply Kd.V_alloc | apply Kd.V_drewN | apply Kd.V_drew)); exact Kd.V_mono HO_1169001.out (fun _ hk => ⟨hk.1.1, ⟨hk.2, hk.1.2.1⟩⟩)⟩, ⟨(kk_ BK1168)⟩, ⟨hB_⟩⟩
      · rw [if_neg c6] at H
        have c6b0 := decide_eq_false c6
        clear c6
        by_cases c55 : x6_1 = true
        · subst c55
          rw [if_pos rfl] at H
          obtain rfl := Option.some.inj H
          go_wp2
          go_ret
          exact ⟨_, qb_, by (with_reducible repeat (first | apply Kd.N_alloc | apply Kd.N_drewN | apply Kd.N_drew)); exact Kd.N_mono HO_5.out (fun _ hk => hk.1), hB_⟩
        · replace c55 := Bool.eq_false_iff.mpr c55
          subst c55
          have H1 : (if x5_1.length < 2932031007402 then (some (x5_1 ++ [(⟨l1_0, l1_1⟩ : S33)])) else (none)) = some r := by rw [if_neg (show ¬ (false = true) by decide)] at H; exact H
          clear H
          have H := H1
          clear H1
          have c56 := cp_ H
          replace H := ca_ H
          have LMc56 := Aside0.mk c56
          clear c56
          obtain ⟨y1172, hy1172⟩ : ∃ y_ : List (S33), y_ = (x5_1 ++ [(⟨l1_0, l1_1⟩ : S33)]) := ⟨_, rfl⟩
          replace H : (some y1172) = some r := by first | (rw [hy1172]; exact H) | exact H
          have Ny1172 := Aside0.mk hy1172
          clear hy1172
          obtain rfl := Option.some.inj H
          obtain ⟨hcz57_0, hcz57_1, hfz57_0, hfz57_1⟩ := c2_ BK1168
          go_wp2_with (first | ((with_reducible refine gate_builtin (b := .append) (xs := #[.tmp 37, .tmp 39]) rfl ?_); at_builtin; refine Kd.N_append k33 (w0 := w) w.heap.size rfl (.tmp 37) (.tmp 39) 25 33 (.agg #[(.slice none 0 0), (.slice none 0 0)]) 48 rfl Try.underlying25 info33 rfl (by decide) (by omega) u5 x5_1 (⟨l1_0, l1_1⟩ : S33) [.slice A1_0 l1_0.length c1_0, .slice A1_1 l1_1.length c1_1] (fun k_ => ((P0_ k_ ∨ P1_0_ k_ ∨ P1_1_ k_) ∨ w.heap.size ≤ k_) ∧ k_ ≠ gb1168) (fun k_ => ((fun k_ => ((P0_ k_ ∨ P1_0_ k_ ∨ P1_1_ k_) ∨ w.heap.size ≤ k_) ∧ k_ ≠ gb1168)) k_ ∧ some k_ ≠ (u5 : Value).ownBlock) rfl rfl ?aP (fun _ hk => hk) ?aF ?aO ?aB ?aS ?aL ?_; (case aP => exact (k33_mkF _ _ (⟨l1_0, l1_1⟩ : S33) (Kd.V_reads' (Kd.V_mono (ok' := (fun k_ => ((fun k_ => ((P0_ k_ ∨ P1_0_ k_ ∨ P1_1_ k_) ∨ w.heap.size ≤ k_) ∧ k_ ≠ gb1168)) k_ ∧ some k_ ≠ (u5 : Value).ownBlock)) (HO_1169000.out) (fun k_ hk => ⟨⟨hk.1, hk.2.2⟩, hk.2.1⟩))).2.1 (Kd.V_F (Kd.V_mono (ok' := (fun k_ => ((fun k_ => ((P0_ k_ ∨ P1_0_ k_ ∨ P1_1_ k_) ∨ w.heap.size ≤ k_) ∧ k_ ≠ gb1168)) k_ ∧ some k_ ≠ (u5 : Value).ownBlock)) (HO_1169000.out) (fun k_ hk => ⟨⟨hk.1, hk.2.2⟩, hk.2.1⟩))) (Kd.V_reads' (Kd.V_mono (ok' := (fun k_ => ((fun k_ => ((P0_ k_ ∨ P1_0_ k_ ∨ P1_1_ k_) ∨ w.heap.size ≤ k_) ∧ k_ ≠ gb1168)) k_ ∧ some k_ ≠ (u5 : Value).ownBlock)) (HO_1169001.out) (fun k_ hk => ⟨⟨hk.1, hk.2.2⟩, hk.2.1⟩))).2.1 (Kd.V_F (Kd.V_mono (ok' := (fun k_ => ((fun k_ => ((P0_ k_ ∨ P1_0_ k_ ∨ P1_1_ k_) ∨ w.heap.size ≤ k_) ∧ k_ ≠ gb1168)) k_ ∧ some k_ ≠ (u5 : Value).ownBlock)) (HO_1169001.out) (fun k_ hk => ⟨⟨hk.1, hk.2.2⟩, hk.2.1⟩))))); (case aB => exact hB_); (case aF => exact (fun k_ hk => ⟨(.inr (Nat.le_trans (below_size hB_) hk)), Kd.freshB (kk_ BK1168) k_ hk⟩)); (case aO => exact (by (with_reducible repeat (first | apply Kd.N_alloc | apply Kd.N_drewN | apply Kd.N_drew)); exact HO_5.out)); (case aS => exact (below_size hB_)); (case aL => have := LMc56.out; omega); intro v1173 w58 ho hb hg hat; rw [← Ny1172.out] at ho; replace HO_10 := Aside0.mk (Kd.V_afterv (ok := (fun k_ => ((P0_ k_ ∨ P1_0_ k_ ∨ P1_1_ k_) ∨ w.heap.size ≤ k_) ∧ k_ ≠ gb1168)) (by (with_reducible repeat (first | apply Kd.V_alloc | apply Kd.V_drewN | apply Kd.V_drew)); exact Kd.V_mono HO_10.out (fun _ hk => ⟨⟨hk.1, hk.2.2⟩, hk.2.1⟩)) hg hat); replace HO_1169000 := Aside0.mk (Kd.V_afterv (ok := (fun k_ => ((P0_ k_ ∨ P1_0_ k_ ∨ P1_1_ k_) ∨ w.heap.size ≤ k_) ∧ k_ ≠ gb1168)) (by (with_reducible repeat (first | apply Kd.V_alloc | apply Kd.V_drewN | apply Kd.V_drew)); exact Kd.V_mono HO_1169000.out (fun _ hk => ⟨⟨hk.1, hk.2.2⟩, hk.2.1⟩)) hg hat); replace HO_1169001 := Aside0.mk (Kd.V_afterv (ok := (fun k_ => ((P0_ k_ ∨ P1_0_ k_ ∨ P1_1_ k_) ∨ w.heap.size ≤ k_) ∧ k_ ≠ gb1168)) (by (with_reducible repeat (first | apply Kd.V_alloc | apply Kd.V_drewN | apply Kd.V_drew)); exact Kd.V_mono HO_1169001.out (fun _ hk => ⟨⟨hk.1, hk.2.2⟩, hk.2.1⟩)) hg hat); replace BK1168 := Aside0.mk (blk_grown (kk_ BK1168) hg (Kd.N_away HO_5.out (fun _ hk => hk.2))); replace HB := Aside0.mk hb; have HO1174 := Aside0.mk ho; clear HO_5; clear ho hb hg hat))
          go_ret
          exact ⟨_, qb_, by (with_reducible repeat (first | apply Kd.N_alloc | apply Kd.N_drewN | apply Kd.N_drew)); exact Kd.N_mono HO1174.out (fun _ hk => hk.1), hB_⟩
end Go.Proofs.Ytoijcallajegfaa.A
end
section
namespace Go.Proofs.Ytoijcallajegfaa.A
open Go.RowKit Go.Proofs.YtoijcallajegfaaW.PrintWords Go.Proofs.YtoijcallajegfaaW.PrintLast Go.Proofs.YtoijcallajegfaaW.PrintMore
attribute [local go_sem] max2_int min2_int max_two min_two max_three min_three max_four min_four
set_option linter.unusedVariables false
set_option linter.unusedSimpArgs false
mutual
def spec_SurfacesWith.l0 : Nat → List (S33) → List (List Int) → List (List Int) → Int → Int → Option ((List (S33)))
  | 0, _, _, _, _, _ => none
  | k + 1, x3, x4, x16, x17, x18 => if x18 < x17 then (if 0 ≤ x18 then (if x18 < (x16.length : Int) then (spec_SurfacesWith.l1 k x3 x4 (rd_L5 x16 x18) x16 x17 x18 x4 (x4.length : Int) 0) else (none)) else (none)) else (some x3)
def spec_SurfacesWith.l1 : Nat → List (S33) → List (List Int) → List Int → List (List Int) → Int → Int → List (List Int) → Int → Int → Option ((List (S33)))
  | 0, _, _, _, _, _, _, _, _, _ => none
  | k + 1, x3, x4, x6, x16, x17, x18, x22, x23, x24 => if x24 < x23 then (if 0 ≤ x24 then (if x24 < (x22.length : Int) then ((spec_SurfaceOk.f k x6 (rd_L5 x22 x24)).bind fun t1204 => (if t1204 = true then ((spec_l03Canon.f k x6 (rd_L5 x22 x24)).bind fun bt1205 => ((spec_l10Insert.f k x3 bt1205.1 bt1205.2).bind fun t1211 => (spec_SurfacesWith.l1 k t1211 x4 x6 x16 x17 x18 x22 x23 (wrap64 (x24 + 1))))) else (spec_SurfacesWith.l1 k x3 x4 x6 x16 x17 x18 x22 x23 (wrap64 (x24 + 1))))) else (none)) else (none)) else (spec_SurfacesWith.l0 k x3 x4 x16 x17 (wrap64 (x18 + 1)))
end
def spec_SurfacesWith.f (k : Nat) (a0 : Int) : Option ((List (S33))) := (spec_l01In.f a0 1 4).bind fun t1194 => (if t1194 = true then ((spec_l10Perms.f k a0).bind fun t1198 => (spec_SurfacesWith.l0 k (([] : List (S33))) t1198 t1198 (t1198.length : Int) 0)) else (some ([] : List (S33))))
theorem spec_SurfacesWith.mono_l : ∀ k, (∀ y0 y1 y2 y3 y4, LeO (spec_SurfacesWith.l0 k y0 y1 y2 y3 y4) (spec_SurfacesWith.l0 (k + 1) y0 y1 y2 y3 y4)) ∧ (∀ y0 y1 y2 y3 y4 y5 y6 y7 y8, LeO (spec_SurfacesWith.l1 k y0 y1 y2 y3 y4 y5 y6 y7 y8) (spec_SurfacesWith.l1 (k + 1) y0 y1 y2 y3 y4 y5 y6 y7 y8))
  | 0 => ⟨fun _ _ _ _ _ r h => by simp [spec_SurfacesWith.l0] at h, fun _ _ _ _ _ _ _ _ _ r h => by simp [spec_SurfacesWith.l1] at h⟩
  | k + 1 => by
    obtain ⟨ih0, ih1⟩ := spec_SurfacesWith.mono_l k
    refine ⟨?_, ?_⟩
    · intro y0 y1 y2 y3 y4
      unfold spec_SurfacesWith.l0
      repeat' first|exact ih0 _ _ _ _ _|exact ih1 _ _ _ _ _ _ _ _ _|exact spec_SurfaceOk.mono _ _ _|exact spec_l03Canon.mono _ _ _|exact spec_l10Insert.mono _ _ _ _|exact spec_l10Perms.mono _ _|exact lo_|refine LeO.ite ?_ ?_|refine LeO.bind ?_ (fun _ => ?_)
    · intro y0 y1 y2 y3 y4 y5 y6 y7 y8
      unfold spec_SurfacesWith.l1
      repeat' first|exact ih0 _ _ _ _ _|exact ih1 _ _ _ _ _ _ _ _ _|exact spec_SurfaceOk.mono _ _ _|exact spec_l03Canon.mono _ _ _|exact spec_l10Insert.mono _ _ _ _|exact spec_l10Perms.mono _ _|exact lo_|refine LeO.ite ?_ ?_|refine LeO.bind ?_ (fun _ => ?_)
theorem spec_SurfacesWith.mono : ∀ a0 k, LeO (spec_SurfacesWith.f k a0) (spec_SurfacesWith.f (k + 1) a0) := by
  intro a0 k
  obtain ⟨ih0, ih1⟩ := spec_SurfacesWith.mono_l k
  unfold spec_SurfacesWith.f
  repeat' first|exact ih0 _ _ _ _ _|exact ih1 _ _ _ _ _ _ _ _ _|exact spec_SurfaceOk.mono _ _ _|exact spec_l03Canon.mono _ _ _|exact spec_l10Insert.mono _ _ _ _|exact spec_l10Perms.mono _ _|exact lo_|refine LeO.ite ?_ ?_|refine LeO.bind ?_ (fun _ => ?_)
set_option maxHeartbeats 8000000 in
set_option maxRecDepth 100000 in
theorem spec_SurfacesWith.calls (k : Nat) (a0 : Int) (r : List (S33)) (w : World) (h : spec_SurfacesWith.f k a0 = some r) :
    Calls Try.prog 37 #[.int .i64 a0] w fun e w' => ∃ v0_ : Value, e = .returned (v0_) ∧ Kd.N k33 33 w' w.heap.size (fun k_ => (w.heap.size ≤ k_)) v0_ r ∧ Below w.heap.size w w' := by
  have hu33 := Try.underlying33
  have HB := Aside0.mk (Below.refl w.heap.size w)
  have H := h
  unfold spec_SurfacesWith.f at H
  clear h
  obtain ⟨t1194, A2, H⟩ := bi_ H
  by_cases c3 : t1194 = true
  · subst c3
    rw [if_pos rfl] at H
    obtain ⟨y1195, hy1195⟩ : ∃ y_ : List (S33), y_ = (([] : List (S33))) := ⟨_, rfl⟩
    replace H : ((spec_l10Perms.f k a0).bind fun t1198 => (spec_SurfacesWith.l0 k y1195 t1198 t1198 (t1198.length : Int) 0)) = some r := by first | (rw [hy1195]; exact H) | exact H
    have Ny1195 := Aside0.mk hy1195
    clear hy1195
    obtain ⟨t1198, A4, H⟩ := bi_ H
    have H' := Aside0.mk H
    clear H
    go_enter Try.func37, Try.ntmps37
    go_wp2_with (first | ((with_reducible refine gate_callee (f := 83) rfl ?_); refine gL_ (some 11) Try.func83 #[.int .i64 a0, .int .i64 1, .int .i64 4] rfl qa_ ?_; (with_reducible refine (spec_l01In.calls a0 1 4 true _ A2.out).mono ?_); rintro e w' ⟨rfl, ⟨nd, rfl⟩⟩; refine ⟨_, rfl, ?_⟩) | ((with_reducible refine gate_dst (N := 13) rfl ?_); refine Kd.N_lit k33 _ 33 ?hg (N' := 13) ?hd (xs := ([] : List (S33))) (inner := []) (ok := (fun k_ => (w.heap.size ≤ k_))) (okp := (fun k_ => (w.heap.size ≤ k_))) ?hr ?hp (fun _ hk => hk) ((show ∀ k_, w.heap.size ≤ k_ → (fun k_ => (w.heap.size ≤ k_)) k_ from fun k_ hk => (Nat.le_trans (below_size hB_) hk)) _ (Nat.le_refl _)) (Below.refl _ _) (Nat.le_refl _) (by simp) ?_; (case hd => rfl); (case hg => rfl); (case hr => first | (go_simp; done) | (go_simp; rfl)); (case hp => exact (Reps.none _ _)); intro v1196 w5 ho6 hb hg_ hnew_; clear hg_ hnew_; (first | rw [← Ny1195.out] at ho6 | (simp only [Int.reduceToNat] at ho6; rw [← Ny1195.out] at ho6)); have HO1197 := Aside0.mk (Kd.N_lower ho6 (below_size hB_)); replace HB := b1_ hb; clear hb ho6) | ((with_reducible refine gate_callee (f := 84) rfl ?_); refine gL_ (some 15) Try.func84 #[.int .i64 a0] rfl qa_ ?_; (with_reducible refine (spec_l10Perms.calls k a0 t1198 _ A4.out).mono ?_); rintro e w7 ⟨v1199, rfl, ho0, hb⟩; refine ⟨_, rfl, ?_⟩; have HO1200 := Aside0.mk (Kd.N_lower (Kd.N_mono (ok' := fun k_ => (w.heap.size ≤ k_) ∧ some k_ ≠ (v1196 : Value).ownBlock) ho0 (fun k_ hk_ => ⟨(Nat.le_trans (below_size hB_) hk_), (Kd.fresh' (Kd.N_lt (by (with_reducible repeat (first | apply Kd.N_alloc | apply Kd.N_drewN | apply Kd.N_drew)); exact HO1197.out)) k_ hk_)⟩)) (below_size hB_)); replace HO1197 := Aside0.mk (Kd.N_elder' (by (with_reducible repeat (first | apply Kd.N_alloc | apply Kd.N_drewN | apply Kd.N_drew)); exact HO1197.out) (Kd.N_base ho0) hb); replace HB := b1_ hb; clear hb ho0; obtain ⟨Ao8, co8, eo8⟩ := Kd.N_slice HO1200.out; subst eo8))
    go_loopg [3, 18] k (fun kq v3 v18 w' => ∃ (x3_1 : List (S33)) (x18_1 : Int), v18 = .int .i64 x18_1 ∧ Aside0 (spec_SurfacesWith.l0 kq x3_1 t1198 t1198 (t1198.length : Int) x18_1 = some r) ∧ Aside0 (kq ≤ k) ∧ Aside0 (Kd.N k33 33 w' w.heap.size (fun k_ => (w.heap.size ≤ k_) ∧ some k_ ≠ ((.slice Ao8 t1198.length co8) : Value).ownBlock ∧ some k_ ≠ ((.slice Ao8 t1198.length co8) : Value).ownBlock) v3 x3_1) ∧ Aside0 (Kd.N (Kd.slice 3 (Kd.int .i64)) 23 w' w.heap.size (fun k_ => (w.heap.size ≤ k_) ∧ some k_ ≠ (v3 : Value).ownBlock) (.slice Ao8 t1198.length co8) t1198) ∧ Aside0 (Kd.N (Kd.slice 3 (Kd.int .i64)) 23 w' w.heap.size (fun k_ => (w.heap.size ≤ k_) ∧ some k_ ≠ (v3 : Value).ownBlock) (.slice Ao8 t1198.length co8) t1198) ∧ Aside0 (Below w.heap.size w w'))
    case atStart => exact ⟨(y1195), (0), qc_, H', ⟨Nat.le_refl _⟩, ⟨by (with_reducible repeat (first | apply Kd.N_alloc | apply Kd.N_drewN | apply Kd.N_drew)); exact Kd.N_mono HO1197.out (fun _ hk => ⟨hk.1, ⟨hk.2, hk.2⟩⟩)⟩, ⟨by (with_reducible repeat (first | apply Kd.N_alloc | apply Kd.N_drewN | apply Kd.N_drew)); exact HO1200.out⟩, ⟨by (with_reducible repeat (first | apply Kd.N_alloc | apply Kd.N_drewN | apply Kd.N_drew)); exact HO1200.out⟩, ⟨hB_⟩⟩
    case round =>
      clear H'
      obtain ⟨x3_1, x18_1, rfl, HA, HK1, HO_3, HO_4, HO_16, HB⟩ := hrel
      cases gk with
      | zero => exact absurd HA.out (by simp [spec_SurfacesWith.l0])
      | succ k1 =>
        have H := HA.out
        clear HA
        simp only [spec_SurfacesWith.l0] at H
        by_cases c9 : x18_1 < (t1198.length : Int)
        · rw [if_pos c9] at H
          have c9b0 := decide_eq_true c9
          clear c9
          have c10 := cp_ H
          replace H := ca_ H
          have c10b0 := decide_eq_true c10
          clear c10
          have c11 := cp_ H
          replace H := ca_ H
          have c11b0 := decide_eq_true c11
          clear c11
          have H' := Aside0.mk H
          clear H
          have p1201 : 0 ≤ (x18_1 : Int) := of_decide_eq_true qe_
          have q1201 : x18_1 < (t1198.length : Int) := of_decide_eq_true qe_
          obtain ⟨ad1201, A1201_0, c1201_0, e1201, hx1201_0, hl1201_0, hi1201_0⟩ := at_L5 (Kd.N_reads' HO_16.out).2.2 x18_1 p1201 q1201
          cases e1201
          obtain ⟨ce1201, hce1201, hMe1201, hcc1201⟩ := Kd.N_get HO_16.out [] x18_1 p1201 (by first | exact q1201 | exact of_decide_eq_true qe_ | (have e_ := (Kd.N_reads' HO_16.out).1; omega))
          obtain ⟨ua1201_0, uc1201_0, rfl, ul1201_0, ge1201_0⟩ := Kd.FK_slice_open hMe1201
          have hv1201_0 := hcc1201 0 _ rfl
          rw [Nat.add_zero, show ((Kd.slice 3 (Kd.int .i64))).sz = 1 from rfl, Nat.mul_one] at hv1201_0
          replace hv1201_0 := Option.some.inj (hv1201_0.symm.trans hx1201_0)
          injection hv1201_0 with hva_ hvn_ hvc_
          rw [hva_] at ge1201_0
          rw [hvc_] at ul1201_0
          have HL1201_0 := Aside0.mk (show Kd.V (Kd.int .i64) 3 _ w.heap.size _ _ (rd_L5 t1198 x18_1) from Kd.V_mk ul1201_0 ge1201_0)
          clear hva_ hvn_ hvc_ ge1201_0 ul1201_0
          clear hcc1201 hce1201
          have HR1201_0 := Aside0.mk hi1201_0
          have HC1201_0 := Aside0.mk hl1201_0
          clear hi1201_0 hl1201_0
          replace p1201 := eq_true p1201
          replace q1201 := eq_true q1201
          go_wp2
          go_loopg [3, 24] k1 (fun kq v3 v24 w' => ∃ (x3_2 : List (S33)) (x24_2 : Int), v24 = .int .i64 x24_2 ∧ Aside0 (spec_SurfacesWith.l1 kq x3_2 t1198 (rd_L5 t1198 x18_1) t1198 (t1198.length : Int) x18_1 t1198 (t1198.length : Int) x24_2 = some r) ∧ Aside0 (kq ≤ k1) ∧ Aside0 (Kd.N k33 33 w' w.heap.size (fun k_ => (w.heap.size ≤ k_) ∧ some k_ ≠ ((.slice (some ad1201) t1198.length co8) : Value).ownBlock ∧ some k_ ≠ ((.slice (some ad1201) t1198.length co8) : Value).ownBlock ∧ some k_ ≠ ((.slice (some ad1201) t1198.length co8) : Value).ownBlock) v3 x3_2) ∧ Aside0 (Kd.N (Kd.slice 3 (Kd.int .i64)) 23 w' w.heap.size (fun k_ => (w.heap.size ≤ k_) ∧ some k_ ≠ (v3 : Value).ownBlock) (.slice (some ad1201) t1198.length co8) t1198) ∧ Aside0 (Kd.V (Kd.int .i64) 3 w' w.heap.size (fun k_ => (w.heap.size ≤ k_) ∧ some k_ ≠ (v3 : Value).ownBlock ∧ some k_ ≠ ((.slice (some ad1201) t1198.length co8) : Value).ownBlock) (.slice A1201_0 (rd_L5 t1198 x18_1).length c1201_0) (rd_L5 t1198 x18_1)) ∧ Aside0 (Kd.N (Kd.slice 3 (Kd.int .i64)) 23 w' w.heap.size (fun k_ => (w.heap.size ≤ k_) ∧ some k_ ≠ (v3 : Value).ownBlock) (.slice (some ad1201) t1198.length co8) t1198) ∧ Aside0 (Kd.N (Kd.slice 3 (Kd.int .i64)) 23 w' w.heap.size (fun k_ => (w.heap.size ≤ k_) ∧ some k_ ≠ (v3 : Value).ownBlock) (.slice (some ad1201) t1198.length co8) t1198) ∧ Aside0 (Below w.heap.size w w'))
          case atStart => exact ⟨(x3_1), (0), qc_, H', ⟨Nat.le_refl _⟩, ⟨by (with_reducible repeat (first | apply Kd.N_alloc | apply Kd.N_drewN | apply Kd.N_drew)); exact Kd.N_mono HO_3.out (fun _ hk => ⟨hk.1, ⟨hk.2.1, ⟨hk.2.2, hk.2.1⟩⟩⟩)⟩, ⟨by (with_reducible repeat (first | apply Kd.N_alloc | apply Kd.N_drewN | apply Kd.N_drew)); exact HO_4.out⟩, ⟨by (with_reducible repeat (first | apply Kd.V_alloc | apply Kd.V_drewN | apply Kd.V_drew)); exact Kd.V_mono HL1201_0.out (fun _ hk => ⟨hk.1.1, ⟨hk.1.2, hk.2⟩⟩)⟩, ⟨by (with_reducible repeat (first | apply Kd.N_alloc | apply Kd.N_drewN | apply Kd.N_drew)); exact HO_16.out⟩, ⟨by (with_reducible repeat (first | apply Kd.N_alloc | apply Kd.N_drewN | apply Kd.N_drew)); exact HO_4.out⟩, ⟨hB_⟩⟩
          case round =>
            clear H'
            obtain ⟨x3_2, x24_2, rfl, HA, HK2, HO_3, HO_4, HO_6, HO_16, HO_22, HB⟩ := hrel
            cases gk with
            | zero => exact absurd HA.out (by simp [spec_SurfacesWith.l1])
            | succ k2 =>
              have H := HA.out
              clear HA
              simp only [spec_SurfacesWith.l1] at H
              by_cases c12 : x24_2 < (t1198.length : Int)
              · rw [if_pos c12] at H
                have c12b0 := decide_eq_true c12
                clear c12
                have c13 := cp_ H
                replace H := ca_ H
                have c13b0 := decide_eq_true c13
                clear c13
                have c14 := cp_ H
                replace H := ca_ H
                have c14b0 := decide_eq_true c14
                clear c14
                obtain ⟨t1204, A15, H⟩ := bi_ H
                by_cases c16 : t1204 = true
                · subst c16
                  rw [if_pos rfl] at H
                  obtain ⟨⟨t1205, t1208⟩, A17, H⟩ := bi_ H
                  try dsimp only at H
                  obtain ⟨t1211, A18, H⟩ := bi_ H
                  have H' := Aside0.mk H
                  clear H
                  have p1202 : 0 ≤ (x24_2 : Int) := of_decide_eq_true qe_
                  have q1202 : x24_2 < (t1198.length : Int) := of_decide_eq_true qe_
                  obtain ⟨ad1202, A1202_0, c1202_0, e1202, hx1202_0, hl1202_0, hi1202_0⟩ := at_L5 (Kd.N_reads' HO_22.out).2.2 x24_2 p1202 q1202
                  obtain rfl : ad1201 = ad1202 := (by injection e1202)
                  obtain ⟨ce1202, hce1202, hMe1202, hcc1202⟩ := Kd.N_get HO_22.out [] x24_2 p1202 (by first | exact q1202 | exact of_decide_eq_true qe_ | (have e_ := (Kd.N_reads' HO_22.out).1; omega))
                  obtain ⟨ua1202_0, uc1202_0, rfl, ul1202_0, ge1202_0⟩ := Kd.FK_slice_open hMe1202
                  have hv1202_0 := hcc1202 0 _ rfl
                  rw [Nat.add_zero, show ((Kd.slice 3 (Kd.int .i64))).sz = 1 from rfl, Nat.mul_one] at hv1202_0
                  replace hv1202_0 := Option.some.inj (hv1202_0.symm.trans hx1202_0)
                  injection hv1202_0 with hva_ hvn_ hvc_
                  rw [hva_] at ge1202_0
                  rw [hvc_] at ul1202_0
                  have HL1202_0 := Aside0.mk (show Kd.V (Kd.int .i64) 3 _ w.heap.size _ _ (rd_L5 t1198 x24_2) from Kd.V_mk ul1202_0 ge1202_0)
                  clear hva_ hvn_ hvc_ ge1202_0 ul1202_0
                  clear hcc1202 hce1202
                  have HR1202_0 := Aside0.mk hi1202_0
                  have HC1202_0 := Aside0.mk hl1202_0
                  clear hi1202_0 hl1202_0
                  replace p1202 := eq_true p1202
                  replace q1202 := eq_true q1202
                  go_wp2_with (first | ((with_reducible refine gate_dst (N := 9) rfl ?_); refine bx_ 9 #[.slice none 0 0, .slice none 0 0] 33 ?_; intro gb1203 hg w19 hbox hb; replace HO_3 := Aside0.mk (Kd.N_below (Kd.N_elderB (by (with_reducible repeat (first | apply Kd.N_alloc | apply Kd.N_drewN | apply Kd.N_drew)); exact HO_3.out) gb1203 (Nat.le_of_eq hg.symm)) hb); replace HO_4 := Aside0.mk (Kd.N_below (Kd.N_elderB (by (with_reducible repeat (first | apply Kd.N_alloc | apply Kd.N_drewN | apply Kd.N_drew)); exact HO_4.out) gb1203 (Nat.le_of_eq hg.symm)) hb); replace HO_6 := Aside0.mk (Kd.V_below (Kd.V_elderB (by (with_reducible repeat (first | apply Kd.V_alloc | apply Kd.V_drewN | apply Kd.V_drew)); exact HO_6.out) gb1203 (Nat.le_of_eq hg.symm)) hb); replace HO_16 := Aside0.mk (Kd.N_below (Kd.N_elderB (by (with_reducible repeat (first | apply Kd.N_alloc | apply Kd.N_drewN | apply Kd.N_drew)); exact HO_16.out) gb1203 (Nat.le_of_eq hg.symm)) hb); replace HO_22 := Aside0.mk (Kd.N_below (Kd.N_elderB (by (with_reducible repeat (first | apply Kd.N_alloc | apply Kd.N_drewN | apply Kd.N_drew)); exact HO_22.out) gb1203 (Nat.le_of_eq hg.symm)) hb); replace HL1202_0 := Aside0.mk (Kd.V_below (Kd.V_elderB (by (with_reducible repeat (first | apply Kd.V_alloc | apply Kd.V_drewN | apply Kd.V_drew)); exact HL1202_0.out) gb1203 (Nat.le_of_eq hg.symm)) hb); replace HR1202_0 := Aside0.mk (Kd.C_below (by repeat (first | (with_reducible exact HR1202_0.out) | (with_reducible refine Kd.C_alloc ?_ _) | (with_reducible refine Kd.C_drewN ?_ _) | (with_reducible refine Kd.C_drew ?_) | exact HR1202_0.out)) hb); have BK1203 := Aside0.mk hbox; have GW1203 := gw_ w hg; have GE1203 := GW1203; replace HB := b1_ hb; clear hb hbox hg; obtain ⟨hcz20_0, hcz20_1, hfz20_0, hfz20_1⟩ := c2_ BK1203) | ((with_reducible refine gate_callee (f := 85) rfl ?_); refine gL_ (some 32) Try.func85 #[.agg #[.slice A1201_0 (rd_L5 t1198 x18_1).length c1201_0, .slice A1202_0 (rd_L5 t1198 x24_2).length c1202_0]] rfl qa_ ?_; (with_reducible refine (spec_SurfaceOk.calls k2 _ _ (rd_L5 t1198 x18_1) _ _ (rd_L5 t1198 x24_2) true _ ?side1 ?side2 ?side3 ?side4 A15.out).mono ?_); (case side1 => refine (Kd.V_reads' (e := 3) (base := w.heap.size) (ok := fun k_ => (((w.heap.size ≤ k_) ∧ (some k_ ≠ (u3 : Value).ownBlock ∧ some k_ ≠ (.slice (some ad1201) t1198.length co8 : Value).ownBlock)) ∧ k_ ≠ gb1203)) (n := (rd_L5 t1198 x18_1).length) (c := c1201_0) ?_).2.2; exact (by (with_reducible repeat (first | apply Kd.V_alloc | apply Kd.V_drewN | apply Kd.V_drew)); exact (Kd.V_mono (Kd.V_far (p := ⟨gb1203, 1, none⟩) (Kd.V_far (p := ⟨gb1203, 0, none⟩) (Kd.V_mono HO_6.out (fun k_ hk => (⟨hk, hk.2⟩ : _ ∧ k_ ≠ gb1203))) (fun _ hk => hk.2) (.slice A1201_0 (rd_L5 t1198 x18_1).length c1201_0)) (fun _ hk => hk.2) (.slice A1202_0 (rd_L5 t1198 x24_2).length c1202_0)) (fun _ h_ => h_.1)))); (case side2 => exact (Kd.V_reads' HO_6.out).2.1); (case side3 => repeat (first | exact ((Kd.V_reads' (by (with_reducible repeat (first | apply Kd.V_alloc | apply Kd.V_drewN | apply Kd.V_drew)); exact (Kd.V_mono (Kd.V_far (p := ⟨gb1203, 1, none⟩) (Kd.V_far (p := ⟨gb1203, 0, none⟩) (Kd.V_mono HL1202_0.out (fun k_ hk => (⟨hk, hk.2⟩ : _ ∧ k_ ≠ gb1203))) (fun _ hk => hk.2) (.slice A1201_0 (rd_L5 t1198 x18_1).length c1201_0)) (fun _ hk => hk.2) (.slice A1202_0 (rd_L5 t1198 x24_2).length c1202_0)) (fun _ h_ => h_.1)))).2.2) | (with_reducible refine Kd.C_alloc ?_ _) | (with_reducible refine Kd.C_drewN ?_ _) | (with_reducible refine Kd.C_drew ?_))); (case side4 => exact HC1202_0.out); rintro e w21 ⟨rfl, hb⟩; refine ⟨_, rfl, ?_⟩; replace HO_3 := Aside0.mk (Kd.N_below (by (with_reducible repeat (first | apply Kd.N_alloc | apply Kd.N_drewN | apply Kd.N_drew)); exact (Kd.N_mono (Kd.N_far (p := ⟨gb1203, 1, none⟩) (Kd.N_far (p := ⟨gb1203, 0, none⟩) (Kd.N_mono HO_3.out (fun k_ hk => (⟨hk, hk.2⟩ : _ ∧ k_ ≠ gb1203))) (fun _ hk => hk.2) (.slice A1201_0 (rd_L5 t1198 x18_1).length c1201_0)) (fun _ hk => hk.2) (.slice A1202_0 (rd_L5 t1198 x24_2).length c1202_0)) (fun _ h_ => h_.1))) hb); replace HO_4 := Aside0.mk (Kd.N_below (by (with_reducible repeat (first | apply Kd.N_alloc | apply Kd.N_drewN | apply Kd.N_drew)); exact (Kd.N_mono (Kd.N_far (p := ⟨gb1203, 1, none⟩) (Kd.N_far (p := ⟨gb1203, 0, none⟩) (Kd.N_mono HO_4.out (fun k_ hk => (⟨hk, hk.2⟩ : _ ∧ k_ ≠ gb1203))) (fun _ hk => hk.2) (.slice A1201_0 (rd_L5 t1198 x18_1).length c1201_0)) (fun _ hk => hk.2) (.slice A1202_0 (rd_L5 t1198 x24_2).length c1202_0)) (fun _ h_ => h_.1))) hb); replace HO_6 := Aside0.mk (Kd.V_below (by (with_reducible repeat (first | apply Kd.V_alloc | apply Kd.V_drewN | apply Kd.V_drew)); exact (Kd.V_mono (Kd.V_far (p := ⟨gb1203, 1, none⟩) (Kd.V_far (p := ⟨gb1203, 0, none⟩) (Kd.V_mono HO_6.out (fun k_ hk => (⟨hk, hk.2⟩ : _ ∧ k_ ≠ gb1203))) (fun _ hk => hk.2) (.slice A1201_0 (rd_L5 t1198 x18_1).length c1201_0)) (fun _ hk => hk.2) (.slice A1202_0 (rd_L5 t1198 x24_2).length c1202_0)) (fun _ h_ => h_.1))) hb); replace HO_16 := Aside0.mk (Kd.N_below (by (with_reducible repeat (first | apply Kd.N_alloc | apply Kd.N_drewN | apply Kd.N_drew)); exact (Kd.N_mono (Kd.N_far (p := ⟨gb1203, 1, none⟩) (Kd.N_far (p := ⟨gb1203, 0, none⟩) (Kd.N_mono HO_16.out (fun k_ hk => (⟨hk, hk.2⟩ : _ ∧ k_ ≠ gb1203))) (fun _ hk => hk.2) (.slice A1201_0 (rd_L5 t1198 x18_1).length c1201_0)) (fun _ hk => hk.2) (.slice A1202_0 (rd_L5 t1198 x24_2).length c1202_0)) (fun _ h_ => h_.1))) hb); replace HO_22 := Aside0.mk (Kd.N_below (by (with_reducible repeat (first | apply Kd.N_alloc | apply Kd.N_drewN | apply Kd.N_drew)); exact (Kd.N_mono (Kd.N_far (p := ⟨gb1203, 1, none⟩) (Kd.N_far (p := ⟨gb1203, 0, none⟩) (Kd.N_mono HO_22.out (fun k_ hk => (⟨hk, hk.2⟩ : _ ∧ k_ ≠ gb1203))) (fun _ hk => hk.2) (.slice A1201_0 (rd_L5 t1198 x18_1).length c1201_0)) (fun _ hk => hk.2) (.slice A1202_0 (rd_L5 t1198 x24_2).length c1202_0)) (fun _ h_ => h_.1))) hb); replace HR1202_0 := Aside0.mk (Kd.C_below ((Kd.V_reads' (by (with_reducible repeat (first | apply Kd.V_alloc | apply Kd.V_drewN | apply Kd.V_drew)); exact (Kd.V_mono (Kd.V_far (p := ⟨gb1203, 1, none⟩) (Kd.V_far (p := ⟨gb1203, 0, none⟩) (Kd.V_mono HL1202_0.out (fun k_ hk => (⟨hk, hk.2⟩ : _ ∧ k_ ≠ gb1203))) (fun _ hk => hk.2) (.slice A1201_0 (rd_L5 t1198 x18_1).length c1201_0)) (fun _ hk => hk.2) (.slice A1202_0 (rd_L5 t1198 x24_2).length c1202_0)) (fun _ h_ => h_.1)))).2.2) hb); replace HL1202_0 := Aside0.mk (Kd.V_below (by (with_reducible repeat (first | apply Kd.V_alloc | apply Kd.V_drewN | apply Kd.V_drew)); exact (Kd.V_mono (Kd.V_far (p := ⟨gb1203, 1, none⟩) (Kd.V_far (p := ⟨gb1203, 0, none⟩) (Kd.V_mono HL1202_0.out (fun k_ hk => (⟨hk, hk.2⟩ : _ ∧ k_ ≠ gb1203))) (fun _ hk => hk.2) (.slice A1201_0 (rd_L5 t1198 x18_1).length c1201_0)) (fun _ hk => hk.2) (.slice A1202_0 (rd_L5 t1198 x24_2).length c1202_0)) (fun _ h_ => h_.1))) hb); replace BK1203 := Aside0.mk (blk_below (g := gb1203) (o := .cells #[.slice A1201_0 (rd_L5 t1198 x18_1).length c1201_0, .slice A1202_0 (rd_L5 t1198 x24_2).length c1202_0] 33 (0, 0)) qp_ hb); replace HB := b1_ hb; clear hb; obtain ⟨hcz22_0, hcz22_1, hfz22_0, hfz22_1⟩ := c2_ BK1203) | ((with_reducible refine gate_callee (f := 87) rfl ?_); refine gL_ (some 35) Try.func87 #[.agg #[.slice A1201_0 (rd_L5 t1198 x18_1).length c1201_0, .slice A1202_0 (rd_L5 t1198 x24_2).length c1202_0]] rfl qa_ ?_; (with_reducible refine (spec_l03Canon.calls k2 _ _ (rd_L5 t1198 x18_1) _ _ (rd_L5 t1198 x24_2) t1205 t1208 _ ?side1 ?side2 ?side3 ?side4 A17.out).mono ?_); (case side1 => exact cw_ ((Kd.V_reads' HO_6.out).2.2)); (case side2 => exact (Kd.V_reads' HO_6.out).2.1); (case side3 => repeat (first | exact (by repeat (first | (with_reducible exact HR1202_0.out) | (with_reducible refine Kd.C_alloc ?_ _) | (with_reducible refine Kd.C_drewN ?_ _) | (with_reducible refine Kd.C_drew ?_) | exact HR1202_0.out)) | (with_reducible refine Kd.C_alloc ?_ _) | (with_reducible refine Kd.C_drewN ?_ _) | (with_reducible refine Kd.C_drew ?_))); (case side4 => exact HC1202_0.out); rintro e w23 ⟨v1206, v1209, rfl, ho0, ho1, hb⟩; refine ⟨_, rfl, ?_⟩; replace HO_3 := Aside0.mk (Kd.N_mono (Kd.N_told (Kd.N_told (Kd.N_old (by (with_reducible repeat (first | apply Kd.N_alloc | apply Kd.N_drewN | apply Kd.N_drew)); exact HO_3.out) hb) (Kd.R_base ho0)) (Kd.R_base ho1)) (fun _ h_ => h_.1)); replace HO_4 := Aside0.mk (Kd.N_mono (Kd.N_told (Kd.N_told (Kd.N_old (by (with_reducible repeat (first | apply Kd.N_alloc | apply Kd.N_drewN | apply Kd.N_drew)); exact HO_4.out) hb) (Kd.R_base ho0)) (Kd.R_base ho1)) (fun _ h_ => h_.1)); replace HO_6 := Aside0.mk (Kd.V_mono (Kd.V_told (Kd.V_told (Kd.V_old (by (with_reducible repeat (first | apply Kd.V_alloc | apply Kd.V_drewN | apply Kd.V_drew)); exact HO_6.out) hb) (Kd.R_base ho0)) (Kd.R_base ho1)) (fun _ h_ => h_.1)); replace HO_16 := Aside0.mk (Kd.N_mono (Kd.N_told (Kd.N_told (Kd.N_old (by (with_reducible repeat (first | apply Kd.N_alloc | apply Kd.N_drewN | apply Kd.N_drew)); exact HO_16.out) hb) (Kd.R_base ho0)) (Kd.R_base ho1)) (fun _ h_ => h_.1)); replace HO_22 := Aside0.mk (Kd.N_mono (Kd.N_told (Kd.N_told (Kd.N_old (by (with_reducible repeat (first | apply Kd.N_alloc | apply Kd.N_drewN | apply Kd.N_drew)); exact HO_22.out) hb) (Kd.R_base ho0)) (Kd.R_base ho1)) (fun _ h_ => h_.1)); replace HL1202_0 := Aside0.mk (Kd.V_mono (Kd.V_told (Kd.V_told (Kd.V_old (by (with_reducible repeat (first | apply Kd.V_alloc | apply Kd.V_drewN | apply Kd.V_drew)); exact HL1202_0.out) hb) (Kd.R_base ho0)) (Kd.R_base ho1)) (fun _ h_ => h_.1)); have HO1207 := Aside0.mk (Kd.R_lower (Kd.R_newM (M := fun k_ => (w.heap.size ≤ k_)) ho0 (below_size hB_) (fun k_ h_ => h_)) (below_size hB_)); have HO1210 := Aside0.mk (Kd.R_lower (Kd.R_newM (M := fun k_ => (w.heap.size ≤ k_)) ho1 (below_size hB_) (fun k_ h_ => h_)) (below_size hB_)); replace HR1202_0 := Aside0.mk (Kd.C_below (by repeat (first | (with_reducible exact HR1202_0.out) | (with_reducible refine Kd.C_alloc ?_ _) | (with_reducible refine Kd.C_drewN ?_ _) | (with_reducible refine Kd.C_drew ?_) | exact HR1202_0.out)) hb); replace BK1203 := bb_ BK1203 hb; replace HB := b1_ hb; clear hb ho0 ho1; obtain ⟨Ao24, co24, eo24⟩ := Kd.N_slice HO_3.out; subst eo24; obtain ⟨Ao25, co25, eo25⟩ := Kd.R_slice HO1207.out; subst eo25; obtain ⟨Ao26, co26, eo26⟩ := Kd.R_slice HO1210.out; subst eo26) | ((with_reducible refine gate_callee (f := 86) rfl ?_); refine gL_ (some 36) Try.func86 #[.slice Ao24 x3_2.length co24, .agg #[.slice Ao25 t1205.length co25, .slice Ao26 t1208.length co26]] rfl qa_ ?_; (with_reducible refine (spec_l10Insert.calls k2 (fun k_ => (((((w.heap.size ≤ k_) ∧ (some k_ ≠ (.slice (some ad1201) t1198.length co8 : Value).ownBlock ∧ (some k_ ≠ (.slice (some ad1201) t1198.length co8 : Value).ownBlock ∧ some k_ ≠ (.slice (some ad1201) t1198.length co8 : Value).ownBlock))) ∧ k_ ≠ gb1203) ∧ some k_ ≠ (.slice Ao25 t1205.length co25 : Value).ownBlock) ∧ some k_ ≠ (.slice Ao26 t1208.length co26 : Value).ownBlock)) _ _ x3_2 (fun k_ => some k_ = (.slice Ao25 t1205.length co25 : Value).ownBlock) _ _ t1205 (fun k_ => some k_ = (.slice Ao26 t1208.length co26 : Value).ownBlock) _ _ t1208 t1211 _ (Kd.N_V (HO_3.out)) (Kd.R_V (Kd.R_tight rfl (Kd.R_types (Kd.R_apart' (Kd.R_apart' (Kd.R_apart' (Kd.R_apart' (HO1207.out) (Kd.N_typed HO_3.out) (by decide)) (Kd.N_typed HO_4.out) (by decide)) (Kd.N_typed HO_16.out) (by decide)) (Kd.N_typed HO_22.out) (by decide)) BK1203.out (by decide)))) (Kd.R_V (Kd.R_tight rfl (Kd.R_types (Kd.R_apart' (Kd.R_apart' (Kd.R_apart' (Kd.R_apart' (HO1210.out) (Kd.N_typed HO_3.out) (by decide)) (Kd.N_typed HO_4.out) (by decide)) (Kd.N_typed HO_16.out) (by decide)) (Kd.N_typed HO_22.out) (by decide)) BK1203.out (by decide)))) A18.out).mono ?_); rintro e w27 ⟨v1212, rfl, ho0, hb⟩; refine ⟨_, rfl, ?_⟩; replace HO_6 := Aside0.mk (Kd.V_elder' (by (with_reducible repeat (first | apply Kd.V_alloc | apply Kd.V_drewN | apply Kd.V_drew)); exact HO_6.out) (Kd.N_base ho0) hb); replace HL1202_0 := Aside0.mk (Kd.V_elder' (by (with_reducible repeat (first | apply Kd.V_alloc | apply Kd.V_drewN | apply Kd.V_drew)); exact HL1202_0.out) (Kd.N_base ho0) hb); have HO1213 := Aside0.mk (Kd.N_lower (Kd.N_mono (ok' := fun k_ => (w.heap.size ≤ k_) ∧ some k_ ≠ (.slice (some ad1201) t1198.length co8 : Value).ownBlock ∧ some k_ ≠ (.slice (some ad1201) t1198.length co8 : Value).ownBlock ∧ some k_ ≠ (.slice (some ad1201) t1198.length co8 : Value).ownBlock ∧ k_ ≠ gb1203) ho0 (fun k_ hk_ => ⟨Or.elim hk_ (fun hs_ => Or.elim hs_ (fun hs_ => hs_.1.1.1.1) (fun hs_ => Or.elim hs_ (fun hs_ => ((Kd.R_types (Kd.R_apart' (Kd.R_apart' (Kd.R_apart' (Kd.R_apart' (HO1207.out) (Kd.N_typed HO_3.out) (by decide)) (Kd.N_typed HO_4.out) (by decide)) (Kd.N_typed HO_16.out) (by decide)) (Kd.N_typed HO_22.out) (by decide)) BK1203.out (by decide)).1 k_ hs_.symm).1.1.1.1.1.1) (fun hs_ => ((Kd.R_types (Kd.R_apart' (Kd.R_apart' (Kd.R_apart' (Kd.R_apart' (HO1210.out) (Kd.N_typed HO_3.out) (by decide)) (Kd.N_typed HO_4.out) (by decide)) (Kd.N_typed HO_16.out) (by decide)) (Kd.N_typed HO_22.out) (by decide)) BK1203.out (by decide)).1 k_ hs_.symm).1.1.1.1.1.1))) (fun hn_ => (Nat.le_trans (below_size hB_) hn_)), Or.elim hk_ (fun hs_ => Or.elim hs_ (fun hs_ => hs_.1.1.1.2.1) (fun hs_ => Or.elim hs_ (fun hs_ => ((Kd.R_types (Kd.R_apart' (Kd.R_apart' (Kd.R_apart' (Kd.R_apart' (HO1207.out) (Kd.N_typed HO_3.out) (by decide)) (Kd.N_typed HO_4.out) (by decide)) (Kd.N_typed HO_16.out) (by decide)) (Kd.N_typed HO_22.out) (by decide)) BK1203.out (by decide)).1 k_ hs_.symm).1.1.1.2) (fun hs_ => ((Kd.R_types (Kd.R_apart' (Kd.R_apart' (Kd.R_apart' (Kd.R_apart' (HO1210.out) (Kd.N_typed HO_3.out) (by decide)) (Kd.N_typed HO_4.out) (by decide)) (Kd.N_typed HO_16.out) (by decide)) (Kd.N_typed HO_22.out) (by decide)) BK1203.out (by decide)).1 k_ hs_.symm).1.1.1.2))) (fun hn_ => (Kd.fresh' (Kd.N_lt (by (with_reducible repeat (first | apply Kd.N_alloc | apply Kd.N_drewN | apply Kd.N_drew)); exact HO_4.out)) k_ hn_)), Or.elim hk_ (fun hs_ => Or.elim hs_ (fun hs_ => hs_.1.1.1.2.2.1) (fun hs_ => Or.elim hs_ (fun hs_ => ((Kd.R_types (Kd.R_apart' (Kd.R_apart' (Kd.R_apart' (Kd.R_apart' (HO1207.out) (Kd.N_typed HO_3.out) (by decide)) (Kd.N_typed HO_4.out) (by decide)) (Kd.N_typed HO_16.out) (by decide)) (Kd.N_typed HO_22.out) (by decide)) BK1203.out (by decide)).1 k_ hs_.symm).1.1.2) (fun hs_ => ((Kd.R_types (Kd.R_apart' (Kd.R_apart' (Kd.R_apart' (Kd.R_apart' (HO1210.out) (Kd.N_typed HO_3.out) (by decide)) (Kd.N_typed HO_4.out) (by decide)) (Kd.N_typed HO_16.out) (by decide)) (Kd.N_typed HO_22.out) (by decide)) BK1203.out (by decide)).1 k_ hs_.symm).1.1.2))) (fun hn_ => (Kd.fresh' (Kd.N_lt (by (with_reducible repeat (first | apply Kd.N_alloc | apply Kd.N_drewN | apply Kd.N_drew)); exact HO_16.out)) k_ hn_)), Or.elim hk_ (fun hs_ => Or.elim hs_ (fun hs_ => hs_.1.1.1.2.2.2) (fun hs_ => Or.elim hs_ (fun hs_ => ((Kd.R_types (Kd.R_apart' (Kd.R_apart' (Kd.R_apart' (Kd.R_apart' (HO1207.out) (Kd.N_typed HO_3.out) (by decide)) (Kd.N_typed HO_4.out) (by decide)) (Kd.N_typed HO_16.out) (by decide)) (Kd.N_typed HO_22.out) (by decide)) BK1203.out (by decide)).1 k_ hs_.symm).1.2) (fun hs_ => ((Kd.R_types (Kd.R_apart' (Kd.R_apart' (Kd.R_apart' (Kd.R_apart' (HO1210.out) (Kd.N_typed HO_3.out) (by decide)) (Kd.N_typed HO_4.out) (by decide)) (Kd.N_typed HO_16.out) (by decide)) (Kd.N_typed HO_22.out) (by decide)) BK1203.out (by decide)).1 k_ hs_.symm).1.2))) (fun hn_ => (Kd.fresh' (Kd.N_lt (by (with_reducible repeat (first | apply Kd.N_alloc | apply Kd.N_drewN | apply Kd.N_drew)); exact HO_22.out)) k_ hn_)), Or.elim hk_ (fun hs_ => Or.elim hs_ (fun hs_ => hs_.1.1.2) (fun hs_ => Or.elim hs_ (fun hs_ => ((Kd.R_types (Kd.R_apart' (Kd.R_apart' (Kd.R_apart' (Kd.R_apart' (HO1207.out) (Kd.N_typed HO_3.out) (by decide)) (Kd.N_typed HO_4.out) (by decide)) (Kd.N_typed HO_16.out) (by decide)) (Kd.N_typed HO_22.out) (by decide)) BK1203.out (by decide)).1 k_ hs_.symm).2) (fun hs_ => ((Kd.R_types (Kd.R_apart' (Kd.R_apart' (Kd.R_apart' (Kd.R_apart' (HO1210.out) (Kd.N_typed HO_3.out) (by decide)) (Kd.N_typed HO_4.out) (by decide)) (Kd.N_typed HO_16.out) (by decide)) (Kd.N_typed HO_22.out) (by decide)) BK1203.out (by decide)).1 k_ hs_.symm).2))) (fun hn_ => (Kd.freshB (kk_ BK1203) k_ hn_))⟩)) (below_size hB_)); replace HO_3 := Aside0.mk (Kd.N_elder' (by (with_reducible repeat (first | apply Kd.N_alloc | apply Kd.N_drewN | apply Kd.N_drew)); exact HO_3.out) (Kd.N_base ho0) hb); replace HO_4 := Aside0.mk (Kd.N_elder' (by (with_reducible repeat (first | apply Kd.N_alloc | apply Kd.N_drewN | apply Kd.N_drew)); exact HO_4.out) (Kd.N_base ho0) hb); replace HO_16 := Aside0.mk (Kd.N_elder' (by (with_reducible repeat (first | apply Kd.N_alloc | apply Kd.N_drewN | apply Kd.N_drew)); exact HO_16.out) (Kd.N_base ho0) hb); replace HO_22 := Aside0.mk (Kd.N_elder' (by (with_reducible repeat (first | apply Kd.N_alloc | apply Kd.N_drewN | apply Kd.N_drew)); exact HO_22.out) (Kd.N_base ho0) hb); replace HO1207 := rb_ HO1207 hb; replace HO1210 := rb_ HO1210 hb; replace HR1202_0 := Aside0.mk (Kd.C_below (by repeat (first | (with_reducible exact HR1202_0.out) | (with_reducible refine Kd.C_alloc ?_ _) | (with_reducible refine Kd.C_drewN ?_ _) | (with_reducible refine Kd.C_drew ?_) | exact HR1202_0.out)) hb); replace BK1203 := bb_ BK1203 hb; replace HB := b1_ hb; clear hb ho0))
                  go_roundg k2
                  case measure => have := HK1.out; have := HK2.out; omega
                  case rel => exact ⟨(t1211), (wrap64 (x24_2 + 1)), qc_, H', ⟨by have := HK1.out; have := HK2.out; omega⟩, ⟨by (with_reducible repeat (first | apply Kd.N_alloc | apply Kd.N_drewN | apply Kd.N_drew)); exact Kd.N_mono HO1213.out (fun _ hk => ⟨hk.1, ⟨hk.2.1, ⟨hk.2.2.1, hk.2.2.2.1⟩⟩⟩)⟩, ⟨by (with_reducible repeat (first | apply Kd.N_alloc | apply Kd.N_drewN | apply Kd.N_drew)); exact Kd.N_mono HO_4.out (fun _ hk => ⟨hk.1.1.1.1.1, hk.2⟩)⟩, ⟨by (with_reducible repeat (first | apply Kd.V_alloc | apply Kd.V_drewN | apply Kd.V_drew)); exact Kd.V_mono HO_6.out (fun _ hk => ⟨hk.1.1.1.1.1, ⟨hk.2, hk.1.1.1.1.2.2⟩⟩)⟩, ⟨by (with_reducible repeat (first | apply Kd.N_alloc | apply Kd.N_drewN | apply Kd.N_drew)); exact Kd.N_mono HO_16.out (fun _ hk => ⟨hk.1.1.1.1.1, hk.2⟩)⟩, ⟨by (with_reducible repeat (first | apply Kd.N_alloc | apply Kd.N_drewN | apply Kd.N_drew)); exact Kd.N_mono HO_22.out (fun _ hk => ⟨hk.1.1.1.1.1, hk.2⟩)⟩, ⟨hB_⟩⟩
                · replace c16 := Bool.eq_false_iff.mpr c16
                  subst c16
                  have H1 : (spec_SurfacesWith.l1 k2 x3_2 t1198 (rd_L5 t1198 x18_1) t1198 (t1198.length : Int) x18_1 t1198 (t1198.length : Int) (wrap64 (x24_2 + 1))) = some r := by rw [if_neg (show ¬ (false = true) by decide)] at H; exact H
                  clear H
                  have H := H1
                  clear H1
                  have H' := Aside0.mk H
                  clear H
                  have p1202 : 0 ≤ (x24_2 : Int) := of_decide_eq_true qe_
                  have q1202 : x24_2 < (t1198.length : Int) := of_decide_eq_true qe_
                  obtain ⟨ad1202, A1202_0, c1202_0, e1202, hx1202_0, hl1202_0, hi1202_0⟩ := at_L5 (Kd.N_reads' HO_22.out).2.2 x24_2 p1202 q1202
                  obtain rfl : ad1201 = ad1202 := (by injection e1202)
                  obtain ⟨ce1202, hce1202, hMe1202, hcc1202⟩ := Kd.N_get HO_22.out [] x24_2 p1202 (by first | exact q1202 | exact of_decide_eq_true qe_ | (have e_ := (Kd.N_reads' HO_22.out).1; omega))
                  obtain ⟨ua1202_0, uc1202_0, rfl, ul1202_0, ge1202_0⟩ := Kd.FK_slice_open hMe1202
                  have hv1202_0 := hcc1202 0 _ rfl
                  rw [Nat.add_zero, show ((Kd.slice 3 (Kd.int .i64))).sz = 1 from rfl, Nat.mul_one] at hv1202_0
                  replace hv1202_0 := Option.some.inj (hv1202_0.symm.trans hx1202_0)
                  injection hv1202_0 with hva_ hvn_ hvc_
                  rw [hva_] at ge1202_0
                  rw [hvc_] at ul1202_0
                  have HL1202_0 := Aside0.mk (show Kd.V (Kd.int .i64) 3 _ w.heap.size _ _ (rd_L5 t1198 x24_2) from Kd.V_mk ul1202_0 ge1202_0)
                  clear hva_ hvn_ hvc_ ge1202_0 ul1202_0
                  clear hcc1202 hce1202
                  have HR1202_0 := Aside0.mk hi1202_0
                  have HC1202_0 := Aside0.mk hl1202_0
                  clear hi1202_0 hl1202_0
                  replace p1202 := eq_true p1202
                  replace q1202 := eq_true q1202
                  go_wp2_with (first | ((with_reducible refine gate_dst (N := 9) rfl ?_); refine bx_ 9 #[.slice none 0 0, .slice none 0 0] 33 ?_; intro gb1203 hg w28 hbox hb; replace HO_3 := Aside0.mk (Kd.N_below (Kd.N_elderB (by (with_reducible repeat (first | apply Kd.N_alloc | apply Kd.N_drewN | apply Kd.N_drew)); exact HO_3.out) gb1203 (Nat.le_of_eq hg.symm)) hb); replace HO_4 := Aside0.mk (Kd.N_below (Kd.N_elderB (by (with_reducible repeat (first | apply Kd.N_alloc | apply Kd.N_drewN | apply Kd.N_drew)); exact HO_4.out) gb1203 (Nat.le_of_eq hg.symm)) hb); replace HO_6 := Aside0.mk (Kd.V_below (Kd.V_elderB (by (with_reducible repeat (first | apply Kd.V_alloc | apply Kd.V_drewN | apply Kd.V_drew)); exact HO_6.out) gb1203 (Nat.le_of_eq hg.symm)) hb); replace HO_16 := Aside0.mk (Kd.N_below (Kd.N_elderB (by (with_reducible repeat (first | apply Kd.N_alloc | apply Kd.N_drewN | apply Kd.N_drew)); exact HO_16.out) gb1203 (Nat.le_of_eq hg.symm)) hb); replace HO_22 := Aside0.mk (Kd.N_below (Kd.N_elderB (by (with_reducible repeat (first | apply Kd.N_alloc | apply Kd.N_drewN | apply Kd.N_drew)); exact HO_22.out) gb1203 (Nat.le_of_eq hg.symm)) hb); replace HL1202_0 := Aside0.mk (Kd.V_below (Kd.V_elderB (by (with_reducible repeat (first | apply Kd.V_alloc | apply Kd.V_drewN | apply Kd.V_drew)); exact HL1202_0.out) gb1203 (Nat.le_of_eq hg.symm)) hb); replace HR1202_0 := Aside0.mk (Kd.C_below (by repeat (first | (with_reducible exact HR1202_0.out) | (with_reducible refine Kd.C_alloc ?_ _) | (with_reducible refine Kd.C_drewN ?_ _) | (with_reducible refine Kd.C_drew ?_) | exact HR1202_0.out)) hb); have BK1203 := Aside0.mk hbox; have GW1203 := gw_ w hg; have GE1203 := GW1203; replace HB := b1_ hb; clear hb hbox hg; obtain ⟨hcz29_0, hcz29_1, hfz29_0, hfz29_1⟩ := c2_ BK1203) | ((with_reducible refine gate_callee (f := 85) rfl ?_); refine gL_ (some 32) Try.func85 #[.agg #[.slice A1201_0 (rd_L5 t1198 x18_1).length c1201_0, .slice A1202_0 (rd_L5 t1198 x24_2).length c1202_0]] rfl qa_ ?_; (with_reducible refine (spec_SurfaceOk.calls k2 _ _ (rd_L5 t1198 x18_1) _ _ (rd_L5 t1198 x24_2) false _ ?side1 ?side2 ?side3 ?side4 A15.out).mono ?_); (case side1 => refine (Kd.V_reads' (e := 3) (base := w.heap.size) (ok := fun k_ => (((w.heap.size ≤ k_) ∧ (some k_ ≠ (u3 : Value).ownBlock ∧ some k_ ≠ (.slice (some ad1201) t1198.length co8 : Value).ownBlock)) ∧ k_ ≠ gb1203)) (n := (rd_L5 t1198 x18_1).length) (c := c1201_0) ?_).2.2; exact (by (with_reducible repeat (first | apply Kd.V_alloc | apply Kd.V_drewN | apply Kd.V_drew)); exact (Kd.V_mono (Kd.V_far (p := ⟨gb1203, 1, none⟩) (Kd.V_far (p := ⟨gb1203, 0, none⟩) (Kd.V_mono HO_6.out (fun k_ hk => (⟨hk, hk.2⟩ : _ ∧ k_ ≠ gb1203))) (fun _ hk => hk.2) (.slice A1201_0 (rd_L5 t1198 x18_1).length c1201_0)) (fun _ hk => hk.2) (.slice A1202_0 (rd_L5 t1198 x24_2).length c1202_0)) (fun _ h_ => h_.1)))); (case side2 => exact (Kd.V_reads' HO_6.out).2.1); (case side3 => repeat (first | exact ((Kd.V_reads' (by (with_reducible repeat (first | apply Kd.V_alloc | apply Kd.V_drewN | apply Kd.V_drew)); exact (Kd.V_mono (Kd.V_far (p := ⟨gb1203, 1, none⟩) (Kd.V_far (p := ⟨gb1203, 0, none⟩) (Kd.V_mono HL1202_0.out (fun k_ hk => (⟨hk, hk.2⟩ : _ ∧ k_ ≠ gb1203))) (fun _ hk => hk.2) (.slice A1201_0 (rd_L5 t1198 x18_1).length c1201_0)) (fun _ hk => hk.2) (.slice A1202_0 (rd_L5 t1198 x24_2).length c1202_0)) (fun _ h_ => h_.1)))).2.2) | (with_reducible refine Kd.C_alloc ?_ _) | (with_reducible refine Kd.C_drewN ?_ _) | (with_reducible refine Kd.C_drew ?_))); (case side4 => exact HC1202_0.out); rintro e w30 ⟨rfl, hb⟩; refine ⟨_, rfl, ?_⟩; replace HO_3 := Aside0.mk (Kd.N_below (by (with_reducible repeat (first | apply Kd.N_alloc | apply Kd.N_drewN | apply Kd.N_drew)); exact (Kd.N_mono (Kd.N_far (p := ⟨gb1203, 1, none⟩) (Kd.N_far (p := ⟨gb1203, 0, none⟩) (Kd.N_mono HO_3.out (fun k_ hk => (⟨hk, hk.2⟩ : _ ∧ k_ ≠ gb1203))) (fun _ hk => hk.2) (.slice A1201_0 (rd_L5 t1198 x18_1).length c1201_0)) (fun _ hk => hk.2) (.slice A1202_0 (rd_L5 t1198 x24_2).length c1202_0)) (fun _ h_ => h_.1))) hb); replace HO_4 := Aside0.mk (Kd.N_below (by (with_reducible repeat (first | apply Kd.N_alloc | apply Kd.N_drewN | apply Kd.N_drew)); exact (Kd.N_mono (Kd.N_far (p := ⟨gb1203, 1, none⟩) (Kd.N_far (p := ⟨gb1203, 0, none⟩) (Kd.N_mono HO_4.out (fun k_ hk => (⟨hk, hk.2⟩ : _ ∧ k_ ≠ gb1203))) (fun _ hk => hk.2) (.slice A1201_0 (rd_L5 t1198 x18_1).length c1201_0)) (fun _ hk => hk.2) (.slice A1202_0 (rd_L5 t1198 x24_2).length c1202_0)) (fun _ h_ => h_.1))) hb); replace HO_6 := Aside0.mk (Kd.V_below (by (with_reducible repeat (first | apply Kd.V_alloc | apply Kd.V_drewN | apply Kd.V_drew)); exact (Kd.V_mono (Kd.V_far (p := ⟨gb1203, 1, none⟩) (Kd.V_far (p := ⟨gb1203, 0, none⟩) (Kd.V_mono HO_6.out (fun k_ hk => (⟨hk, hk.2⟩ : _ ∧ k_ ≠ gb1203))) (fun _ hk => hk.2) (.slice A1201_0 (rd_L5 t1198 x18_1).length c1201_0)) (fun _ hk => hk.2) (.slice A1202_0 (rd_L5 t1198 x24_2).length c1202_0)) (fun _ h_ => h_.1))) hb); replace HO_16 := Aside0.mk (Kd.N_below (by (with_reducible repeat (first | apply Kd.N_alloc | apply Kd.N_drewN | apply Kd.N_drew)); exact (Kd.N_mono (Kd.N_far (p := ⟨gb1203, 1, none⟩) (Kd.N_far (p := ⟨gb1203, 0, none⟩) (Kd.N_mono HO_16.out (fun k_ hk => (⟨hk, hk.2⟩ : _ ∧ k_ ≠ gb1203))) (fun _ hk => hk.2) (.slice A1201_0 (rd_L5 t1198 x18_1).length c1201_0)) (fun _ hk => hk.2) (.slice A1202_0 (rd_L5 t1198 x24_2).length c1202_0)) (fun _ h_ => h_.1))) hb); replace HO_22 := Aside0.mk (Kd.N_below (by (with_reducible repeat (first | apply Kd.N_alloc | apply Kd.N_drewN | apply Kd.N_drew)); exact (Kd.N_mono (Kd.N_far (p := ⟨gb1203, 1, none⟩) (Kd.N_far (p := ⟨gb1203, 0, none⟩) (Kd.N_mono HO_22.out (fun k_ hk => (⟨hk, hk.2⟩ : _ ∧ k_ ≠ gb1203))) (fun _ hk => hk.2) (.slice A1201_0 (rd_L5 t1198 x18_1).length c1201_0)) (fun _ hk => hk.2) (.slice A1202_0 (rd_L5 t1198 x24_2).length c1202_0)) (fun _ h_ => h_.1))) hb); replace HR1202_0 := Aside0.mk (Kd.C_below ((Kd.V_reads' (by (with_reducible repeat (first | apply Kd.V_alloc | apply Kd.V_drewN | apply Kd.V_drew)); exact (Kd.V_mono (Kd.V_far (p := ⟨gb1203, 1, none⟩) (Kd.V_far (p := ⟨gb1203, 0, none⟩) (Kd.V_mono HL1202_0.out (fun k_ hk => (⟨hk, hk.2⟩ : _ ∧ k_ ≠ gb1203))) (fun _ hk => hk.2) (.slice A1201_0 (rd_L5 t1198 x18_1).length c1201_0)) (fun _ hk => hk.2) (.slice A1202_0 (rd_L5 t1198 x24_2).length c1202_0)) (fun _ h_ => h_.1)))).2.2) hb); replace HL1202_0 := Aside0.mk (Kd.V_below (by (with_reducible repeat (first | apply Kd.V_alloc | apply Kd.V_drewN | apply Kd.V_drew)); exact (Kd.V_mono (Kd.V_far (p := ⟨gb1203, 1, none⟩) (Kd.V_far (p := ⟨gb1203, 0, none⟩) (Kd.V_mono HL1202_0.out (fun k_ hk => (⟨hk, hk.2⟩ : _ ∧ k_ ≠ gb1203))) (fun _ hk => hk.2) (.slice A1201_0 (rd_L5 t1198 x18_1).length c1201_0)) (fun _ hk => hk.2) (.slice A1202_0 (rd_L5 t1198 x24_2).length c1202_0)) (fun _ h_ => h_.1))) hb); replace BK1203 := Aside0.mk (blk_below (g := gb1203) (o := .cells #[.slice A1201_0 (rd_L5 t1198 x18_1).length c1201_0, .slice A1202_0 (rd_L5 t1198 x24_2).length c1202_0] 33 (0, 0)) qp_ hb); replace HB := b1_ hb; clear hb))
                  go_roundg k2
                  case measure => have := HK1.out; have := HK2.out; omega
                  case rel => exact ⟨(x3_2), (wrap64 (x24_2 + 1)), qc_, H', ⟨by have := HK1.out; have := HK2.out; omega⟩, ⟨by (with_reducible repeat (first | apply Kd.N_alloc | apply Kd.N_drewN | apply Kd.N_drew)); exact Kd.N_mono HO_3.out (fun _ hk => ⟨hk.1.1, ⟨hk.1.2.1, ⟨hk.1.2.2.1, hk.1.2.2.2⟩⟩⟩)⟩, ⟨by (with_reducible repeat (first | apply Kd.N_alloc | apply Kd.N_drewN | apply Kd.N_drew)); exact Kd.N_mono HO_4.out (fun _ hk => ⟨hk.1.1, hk.1.2⟩)⟩, ⟨by (with_reducible repeat (first | apply Kd.V_alloc | apply Kd.V_drewN | apply Kd.V_drew)); exact Kd.V_mono HO_6.out (fun _ hk => ⟨hk.1.1, ⟨hk.1.2.1, hk.1.2.2⟩⟩)⟩, ⟨by (with_reducible repeat (first | apply Kd.N_alloc | apply Kd.N_drewN | apply Kd.N_drew)); exact Kd.N_mono HO_16.out (fun _ hk => ⟨hk.1.1, hk.1.2⟩)⟩, ⟨by (with_reducible repeat (first | apply Kd.N_alloc | apply Kd.N_drewN | apply Kd.N_drew)); exact Kd.N_mono HO_22.out (fun _ hk => ⟨hk.1.1, hk.1.2⟩)⟩, ⟨hB_⟩⟩
              · rw [if_neg c12] at H
                have c12b0 := decide_eq_false c12
                clear c12
                have H' := Aside0.mk H
                clear H
                go_wp2
                go_roundg k2
                case measure => have := HK1.out; have := HK2.out; omega
                case rel => exact ⟨(x3_2), (wrap64 (x18_1 + 1)), qc_, H', ⟨by have := HK1.out; have := HK2.out; omega⟩, ⟨by (with_reducible repeat (first | apply Kd.N_alloc | apply Kd.N_drewN | apply Kd.N_drew)); exact Kd.N_mono HO_3.out (fun _ hk => ⟨hk.1, ⟨hk.2.1, hk.2.2.1⟩⟩)⟩, ⟨by (with_reducible repeat (first | apply Kd.N_alloc | apply Kd.N_drewN | apply Kd.N_drew)); exact HO_4.out⟩, ⟨by (with_reducible repeat (first | apply Kd.N_alloc | apply Kd.N_drewN | apply Kd.N_drew)); exact HO_16.out⟩, ⟨hB_⟩⟩
        · rw [if_neg c9] at H
          have c9b0 := decide_eq_false c9
          clear c9
          obtain rfl := Option.some.inj H
          go_wp2
          go_ret
          exact ⟨_, qb_, by (with_reducible repeat (first | apply Kd.N_alloc | apply Kd.N_drewN | apply Kd.N_drew)); exact Kd.N_mono HO_3.out (fun _ hk => hk.1), hB_⟩
  · replace c3 := Bool.eq_false_iff.mpr c3
    subst c3
    have H1 : (some ([] : List (S33))) = some r := by rw [if_neg (show ¬ (false = true) by decide)] at H; exact H
    clear H
    have H := H1
    clear H1
    obtain rfl := Option.some.inj H
    go_enter Try.func37, Try.ntmps37
    go_wp2_with (first | ((with_reducible refine gate_callee (f := 83) rfl ?_); refine gL_ (some 11) Try.func83 #[.int .i64 a0, .int .i64 1, .int .i64 4] rfl qa_ ?_; (with_reducible refine (spec_l01In.calls a0 1 4 false _ A2.out).mono ?_); rintro e w' ⟨rfl, ⟨nd, rfl⟩⟩; refine ⟨_, rfl, ?_⟩))
    go_ret
    exact ⟨_, qb_, by first | exact Kd.S_nil _ _ _ _ _ | exact Kd.N_nil _ _ _ _ _ | exact Kd.V_nil _ _ _ _ _ | exact Kd.Q_nil _ _ _ _ _ | exact Kd.R_nil _ _ _ _ _, hB_⟩
end Go.Proofs.Ytoijcallajegfaa.A
end
section
namespace Go.Proofs.Ytoijcallajegfaa.A
open Go.RowKit Go.Proofs.YtoijcallajegfaaW.PrintWords Go.Proofs.YtoijcallajegfaaW.PrintLast Go.Proofs.YtoijcallajegfaaW.PrintMore
attribute [local go_sem] max2_int min2_int max_two min_two max_three min_three max_four min_four
set_option linter.unusedVariables false
set_option linter.unusedSimpArgs false
mutual
def spec_l04Down.l0 : Nat → List Int → List Int → Int → Int → Option (List Int)
  | 0, _, _, _, _ => none
  | k + 1, x3, x8, x9, x10 => if x10 < x9 then (if 0 ≤ x10 then (if x10 < (x8.length : Int) then (if x3.length < 17592186044416 then ((some (x3 ++ [0] : List Int)).bind fun y1255 => (spec_l04Down.l1 k y1255 (rd x8 x10) (wrap64 ((y1255.length : Int) - 1)) x8 x9 x10)) else (none)) else (none)) else (none)) else (some x3)
def spec_l04Down.l1 : Nat → List Int → Int → Int → List Int → Int → Int → Option (List Int)
  | 0, _, _, _, _, _, _ => none
  | k + 1, x3, x5, x6, x8, x9, x10 => if x6 > 0 then (if 0 ≤ (wrap64 (x6 - 1)) then (if (wrap64 (x6 - 1)) < (x3.length : Int) then (if (rd x3 (wrap64 (x6 - 1))) < x5 then (if 0 ≤ x6 then (if x6 < (x3.length : Int) then (spec_l04Down.l1 k (x3.set (x6 : Int).toNat (rd x3 (wrap64 (x6 - 1)))) x5 (wrap64 (x6 - 1)) x8 x9 x10) else (none)) else (none)) else (if 0 ≤ x6 then (if x6 < (x3.length : Int) then (spec_l04Down.l0 k (x3.set (x6 : Int).toNat x5) x8 x9 (wrap64 (x10 + 1))) else (none)) else (none))) else (none)) else (none)) else (if 0 ≤ x6 then (if x6 < (x3.length : Int) then (spec_l04Down.l0 k (x3.set (x6 : Int).toNat x5) x8 x9 (wrap64 (x10 + 1))) else (none)) else (none))
end
def spec_l04Down.f (k : Nat) (l0 : List Int) : Option (List Int) := spec_l04Down.l0 k (([] : List Int)) l0 (l0.length : Int) 0
theorem spec_l04Down.mono_l : ∀ k, (∀ y0 y1 y2 y3, LeO (spec_l04Down.l0 k y0 y1 y2 y3) (spec_l04Down.l0 (k + 1) y0 y1 y2 y3)) ∧ (∀ y0 y1 y2 y3 y4 y5, LeO (spec_l04Down.l1 k y0 y1 y2 y3 y4 y5) (spec_l04Down.l1 (k + 1) y0 y1 y2 y3 y4 y5))
  | 0 => ⟨fun _ _ _ _ r h => by simp [spec_l04Down.l0] at h, fun _ _ _ _ _ _ r h => by simp [spec_l04Down.l1] at h⟩
  | k + 1 => by
    obtain ⟨ih0, ih1⟩ := spec_l04Down.mono_l k
    refine ⟨?_, ?_⟩
    · intro y0 y1 y2 y3
      unfold spec_l04Down.l0
      repeat' first|exact ih0 _ _ _ _|exact ih1 _ _ _ _ _ _|exact lo_|refine LeO.ite ?_ ?_|refine LeO.bind ?_ (fun _ => ?_)
    · intro y0 y1 y2 y3 y4 y5
      unfold spec_l04Down.l1
      repeat' first|exact ih0 _ _ _ _|exact ih1 _ _ _ _ _ _|exact lo_|refine LeO.ite ?_ ?_|refine LeO.bind ?_ (fun _ => ?_)
theorem spec_l04Down.mono : ∀ a0 k, LeO (spec_l04Down.f k a0) (spec_l04Down.f (k + 1) a0) := by
  intro a0 k
  obtain ⟨ih0, ih1⟩ := spec_l04Down.mono_l k
  unfold spec_l04Down.f
  repeat' first|exact ih0 _ _ _ _|exact ih1 _ _ _ _ _ _|exact lo_|refine LeO.ite ?_ ?_|refine LeO.bind ?_ (fun _ => ?_)
set_option maxHeartbeats 8000000 in
set_option maxRecDepth 100000 in
theorem spec_l04Down.calls (k : Nat) (A0 : Option Addr) (c0 : Nat) (l0 : List Int) (r : List Int) (w : World) (hr0 : Kd.C (Kd.int .i64) w A0 l0.length l0) (hc0 : l0.length ≤ c0) (h : spec_l04Down.f k l0 = some r) :
    Calls Try.prog 194 #[.slice A0 l0.length c0] w fun e w' => ∃ v0_ : Value, e = .returned (v0_) ∧ Kd.R (Kd.int .i64) 3 w' w.heap.size (fun _ => True) v0_ r ∧ Below w.heap.size w w' := by
  have HR0 := Aside0.mk hr0
  have HC0 := Aside0.mk hc0
  clear hr0 hc0
  have HB := Aside0.mk (Below.refl w.heap.size w)
  have H := h
  unfold spec_l04Down.f at H
  clear h
  obtain ⟨y1251, hy1251⟩ : ∃ y_ : List Int, y_ = (([] : List Int)) := ⟨_, rfl⟩
  replace H : (spec_l04Down.l0 k y1251 l0 (l0.length : Int) 0) = some r := by first | (rw [hy1251]; exact H) | exact H
  have Ny1251 := Aside0.mk hy1251
  clear hy1251
  have H' := Aside0.mk H
  clear H
  go_enter Try.func194, Try.ntmps194
  go_wp2_with (first | ((with_reducible refine gate_dst (N := 7) rfl ?_); refine Kd.R_lit (Kd.int .i64) _ 3 ?hg (N := 7) ?hd (xs := ([] : List Int)) (inner := []) (ok := fun _ => True) (okp := fun _ => True) ?hr ?hp (fun _ hk => hk) trivial (Below.refl _ _) (Nat.le_refl _) (by simp) ?_; (case hd => rfl); (case hg => rfl); (case hr => first | (go_simp; done) | (go_simp; rfl)); (case hp => exact (Reps.none _ _)); intro v1252 w2 ho3 hb hg_ hnew_; clear hg_ hnew_; (first | rw [← Ny1251.out] at ho3 | (simp only [Int.reduceToNat] at ho3; rw [← Ny1251.out] at ho3)); have HO1253 := rl_ w ho3; replace HB := b1_ hb; clear hb ho3))
  go_loopg [3, 10] k (fun kq v3 v10 w' => ∃ (x3_1 : List Int) (x10_1 : Int), v10 = .int .i64 x10_1 ∧ Aside0 (spec_l04Down.l0 kq x3_1 l0 (l0.length : Int) x10_1 = some r) ∧ Aside0 (kq ≤ k) ∧ Aside0 (Kd.R (Kd.int .i64) 3 w' w.heap.size (fun _ => True) v3 x3_1) ∧ Aside0 (Below w.heap.size w w'))
  case atStart => exact ⟨(y1251), (0), qc_, H', ⟨Nat.le_refl _⟩, ⟨(rr_ HO1253)⟩, ⟨hB_⟩⟩
  case round =>
    clear H'
    obtain ⟨x3_1, x10_1, rfl, HA, HK1, HO_3, HB⟩ := hrel
    cases gk with
    | zero => exact absurd HA.out (by simp [spec_l04Down.l0])
    | succ k1 =>
      have H := HA.out
      clear HA
      simp only [spec_l04Down.l0] at H
      by_cases c4 : x10_1 < (l0.length : Int)
      · rw [if_pos c4] at H
        have c4b0 := decide_eq_true c4
        clear c4
        have c5 := cp_ H
        replace H := ca_ H
        have c5b0 := decide_eq_true c5
        clear c5
        have c6 := cp_ H
        replace H := ca_ H
        have c6b0 := decide_eq_true c6
        clear c6
        have c7 := cp_ H
        replace H := ca_ H
        have LMc7 := Aside0.mk c7
        clear c7
        obtain ⟨y1255, hy1255⟩ : ∃ y_ : List Int, y_ = (x3_1 ++ [0]) := ⟨_, rfl⟩
        replace H : (spec_l04Down.l1 k1 y1255 (rd l0 x10_1) (wrap64 ((y1255.length : Int) - 1)) l0 (l0.length : Int) x10_1) = some r := by first | (rw [hy1255]; exact H) | exact H
        have Ny1255 := Aside0.mk hy1255
        clear hy1255
        have H' := Aside0.mk H
        clear H
        have p1254 : 0 ≤ (x10_1 : Int) := of_decide_eq_true qe_
        have q1254 : x10_1 < (l0.length : Int) := of_decide_eq_true qe_
        obtain ⟨ad1254, e1254, hx1254_0⟩ := Kd.at_int HR0.out x10_1 p1254 q1254
        cases e1254
        replace hx1254_0 := (HB.out.cell (World.block_lt_of_cell? w _ hx1254_0)).trans hx1254_0
        replace p1254 := eq_true p1254
        replace q1254 := eq_true q1254
        go_wp2_with (first | ((with_reducible refine gate_builtin (b := .append) (xs := #[.tmp 14, .tmp 15]) rfl ?_); at_builtin; refine Kd.R_append (Kd.int .i64) (w0 := w) w.heap.size rfl (.tmp 14) (.tmp 15) 23 3 (.int .i64 0) 8 rfl Try.underlying23 info3 rfl (by decide) (by omega) u3 x3_1 0 [.int .i64 0] (fun _ => True) (fun _ => False) rfl rfl ?aP (fun _ hk => hk.elim) ?aF ?aO ?aB ?aS ?aL ?_; (case aP => exact rfl); (case aB => exact hB_); (case aF => exact (fun _ _ => trivial)); (case aO => exact (rr_ HO_3)); (case aS => exact (below_size hB_)); (case aL => have := LMc7.out; omega); intro v1256 w8 ho hb hg hat; rw [← Ny1255.out] at ho; replace HB := Aside0.mk hb; have HO1257 := Aside0.mk ho; clear HO_3; clear ho hb hg hat; obtain ⟨Ao9, co9, eo9⟩ := Kd.R_slice HO1257.out; subst eo9))
        go_loopg [6] k1 (fun kq v6 w' => ∃ (x3_2 : List Int) (x6_2 : Int), v6 = .int .i64 x6_2 ∧ Aside0 (spec_l04Down.l1 kq x3_2 (rd l0 x10_1) x6_2 l0 (l0.length : Int) x10_1 = some r) ∧ Aside0 (kq ≤ k1) ∧ Aside0 (Kd.R (Kd.int .i64) 3 w' w.heap.size (fun _ => True) (.slice Ao9 y1255.length co9) x3_2) ∧ Aside0 (Below w.heap.size w w'))
        case atStart => exact ⟨(y1255), (wrap64 ((y1255.length : Int) - 1)), qc_, H', ⟨Nat.le_refl _⟩, ⟨(rr_ HO1257)⟩, ⟨hB_⟩⟩
        case round =>
          clear H'
          obtain ⟨x3_2, x6_2, rfl, HA, HK2, HO_3, HB⟩ := hrel
          have hl3_2 := (Kd.R_reads' HO_3.out).1
          rw [hl3_2] at HO_3
          (try simp only [hl3_2])
          cases gk with
          | zero => exact absurd HA.out (by simp [spec_l04Down.l1])
          | succ k2 =>
            have H := HA.out
            clear HA
            simp only [spec_l04Down.l1] at H
            by_cases c10 : x6_2 > 0
            · rw [if_pos c10] at H
              have c10b0 : decide (0 < x6_2) = true := decide_eq_true c10
              clear c10
              obtain ⟨ji11, hji11⟩ : ∃ j_ : Int, (wrap64 (x6_2 - 1)) = j_ := ⟨_, rfl⟩
              replace H : (if 0 ≤ (ji11) then (if (ji11) < (x3_2.length : Int) then (if (rd x3_2 (ji11)) < (rd l0 x10_1) then (if 0 ≤ x6_2 then (if x6_2 < (x3_2.length : Int) then (spec_l04Down.l1 k2 (x3_2.set (x6_2 : Int).toNat (rd x3_2 (ji11))) (rd l0 x10_1) ji11 l0 (l0.length : Int) x10_1) else (none)) else (none)) else (if 0 ≤ x6_2 then (if x6_2 < (x3_2.length : Int) then (spec_l04Down.l0 k2 (x3_2.set (x6_2 : Int).toNat (rd l0 x10_1)) l0 (l0.length : Int) (wrap64 (x10_1 + 1))) else (none)) else (none))) else (none)) else (none)) = some r := by first | (rw [hji11] at H; exact H) | (simp only [hji11] at H ⊢; exact H)
              have hji11w : (IntKind.i64.wrap (x6_2 - 1)) = ji11 := (i64_w _).trans hji11
              have c12 := cp_ H
              replace H := ca_ H
              have c12b0 := decide_eq_true c12
              clear c12
              have c13 := cp_ H
              replace H := ca_ H
              have c13b0 := decide_eq_true c13
              clear c13
              by_cases c14 : (rd x3_2 (ji11)) < (rd l0 x10_1)
              · rw [if_pos c14] at H
                have c14b0 := decide_eq_true c14
                clear c14
                have c15 := cp_ H
                replace H := ca_ H
                have c15b0 := decide_eq_true c15
                clear c15
                have c16 := cp_ H
                replace H := ca_ H
                have c16b0 := decide_eq_true c16
                clear c16
                obtain ⟨y1260, hy1260⟩ : ∃ y_ : List Int, y_ = (x3_2.set (x6_2 : Int).toNat (rd x3_2 (ji11))) := ⟨_, rfl⟩
                replace H : (spec_l04Down.l1 k2 y1260 (rd l0 x10_1) ji11 l0 (l0.length : Int) x10_1) = some r := by first | (rw [hy1260]; exact H) | exact H
                have Ny1260 := Aside0.mk hy1260
                clear hy1260
                have H' := Aside0.mk H
                clear H
                have p1258 : 0 ≤ ((ji11) : Int) := of_decide_eq_true qe_
                have q1258 : (ji11) < (x3_2.length : Int) := of_decide_eq_true qe_
                obtain ⟨ad1258, e1258, hx1258_0⟩ := Kd.at_int (Kd.R_reads' HO_3.out).2.2 (ji11) p1258 q1258
                cases e1258
                replace p1258 := eq_true p1258
                replace q1258 := eq_true q1258
                have p1259 : 0 ≤ ((ji11) : Int) := of_decide_eq_true qe_
                have q1259 : (ji11) < (x3_2.length : Int) := of_decide_eq_true qe_
                obtain ⟨ad1259, e1259, hx1259_0⟩ := Kd.at_int (Kd.R_reads' HO_3.out).2.2 (ji11) p1259 q1259
                obtain rfl : ad1258 = ad1259 := (by injection e1259)
                replace p1259 := eq_true p1259
                replace q1259 := eq_true q1259
                have p17 : 0 ≤ (x6_2 : Int) := of_decide_eq_true qe_
                have q17 : (x6_2 : Int) < ((x3_2.length : Int) : Int) := of_decide_eq_true qe_
                obtain ⟨go17, co17, eo17, gb17, gl17, cl17, HG17⟩ := Kd.R_form HO_3.out (by omega)
                (first | cases eo17 | (injection eo17 with ea_ en_ ec_; (first | subst ea_ | (injection ea_ with ea_; subst ea_)); subst ec_; clear en_))
                have GB17 := Aside0.mk gb17
                have GG17 := Aside0.mk HG17
                clear gb17 gl17 HG17
                (first | simp only [add_plain] at hx1258_0 | skip)
                (first | simp only [add_plain] at hx1259_0 | skip)
                obtain ⟨hx17_0, hf17_0⟩ := Kd.R_celln 0 HO_3.out (x6_2 : Int) p17 q17
                replace p17 := eq_true p17
                replace q17 := eq_true q17
                have HP18 := Kd.R_putg HO_3.out (x6_2 : Int) (rd x3_2 (ji11))
                go_wp2_with (first | ((with_reducible refine gate_store (t := 3) (p := 38) rfl ?_); refine store_event (t := 3) (p := 38) (v := ?vo_w19) (w1 := (wr.setCell ⟨go17, (x6_2 : Int).toNat, none⟩ (.int .i64 (rd x3_2 (ji11))))) ?hg ?ho ?hn ?hr ?_; (case ho => rfl); (case hg => rfl); (case hn => rfl); (case hr => first | (go_simp; done) | (go_simp; rfl)); intro w19 hw; have hg : wr.grownBy w19 (some go17) := (by rw [hw]; exact HP18.2); have hp_ : Kd.R (Kd.int .i64) 3 w19 w.heap.size (fun _ => True) (.slice (some ⟨go17, 0, none⟩) x3_2.length co9) y1260 := (by rw [hw, Ny1260.out]; exact HP18.1); clear HP18; replace HO_3 := Aside0.mk (hp_); replace HB := Aside0.mk ((by rw [hw]; exact below_set (HB.out) GB17.out : Below w.heap.size w w19)); clear hg hw hp_))
                (try simp only [← hl3_2])
                go_roundg k2
                case measure => have := HK1.out; have := HK2.out; omega
                case rel => exact ⟨(y1260), (ji11), (by first | rfl | (simp; done) | (simp only [← hji11] <;> (first | rfl | simp)) | (simp [*]; done)), H', ⟨by have := HK1.out; have := HK2.out; omega⟩, ⟨by (try simp only [hl3_2]); (with_reducible repeat (first | apply Kd.R_alloc | apply Kd.R_drewN | apply Kd.R_drew)); exact HO_3.out⟩, ⟨hB_⟩⟩
              · rw [if_neg c14] at H
                have c14b0 := decide_eq_false c14
                clear c14
                have c20 := cp_ H
                replace H := ca_ H
                have c20b0 := decide_eq_true c20
                clear c20
                have c21 := cp_ H
                replace H := ca_ H
                have c21b0 := decide_eq_true c21
                clear c21
                obtain ⟨y1261, hy1261⟩ : ∃ y_ : List Int, y_ = (x3_2.set (x6_2 : Int).toNat (rd l0 x10_1)) := ⟨_, rfl⟩
                replace H : (spec_l04Down.l0 k2 y1261 l0 (l0.length : Int) (wrap64 (x10_1 + 1))) = some r := by first | (rw [hy1261]; exact H) | exact H
                have Ny1261 := Aside0.mk hy1261
                clear hy1261
                have H' := Aside0.mk H
                clear H
                have p1258 : 0 ≤ ((ji11) : Int) := of_decide_eq_true qe_
                have q1258 : (ji11) < (x3_2.length : Int) := of_decide_eq_true qe_
                obtain ⟨ad1258, e1258, hx1258_0⟩ := Kd.at_int (Kd.R_reads' HO_3.out).2.2 (ji11) p1258 q1258
                cases e1258
                replace p1258 := eq_true p1258
                replace q1258 := eq_true q1258
                have p22 : 0 ≤ (x6_2 : Int) := of_decide_eq_true qe_
                have q22 : (x6_2 : Int) < ((x3_2.length : Int) : Int) := of_decide_eq_true qe_
                obtain ⟨go22, co22, eo22, gb22, gl22, cl22, HG22⟩ := Kd.R_form HO_3.out (by omega)
                (first | cases eo22 | (injection eo22 with ea_ en_ ec_; (first | subst ea_ | (injection ea_ with ea_; subst ea_)); subst ec_; clear en_))
                have GB22 := Aside0.mk gb22
                have GG22 := Aside0.mk HG22
                clear gb22 gl22 HG22
                (first | simp only [add_plain] at hx1258_0 | skip)
                obtain ⟨hx22_0, hf22_0⟩ := Kd.R_celln 0 HO_3.out (x6_2 : Int) p22 q22
                replace p22 := eq_true p22
                replace q22 := eq_true q22
                have HP23 := Kd.R_putg HO_3.out (x6_2 : Int) (rd l0 x10_1)
                go_wp2_with (first | ((with_reducible refine gate_store (t := 3) (p := 44) rfl ?_); refine store_event (t := 3) (p := 44) (v := ?vo_w24) (w1 := (wr.setCell ⟨go22, (x6_2 : Int).toNat, none⟩ (.int .i64 (rd l0 x10_1)))) ?hg ?ho ?hn ?hr ?_; (case ho => rfl); (case hg => rfl); (case hn => rfl); (case hr => first | (go_simp; done) | (go_simp; rfl)); intro w24 hw; have hg : wr.grownBy w24 (some go22) := (by rw [hw]; exact HP23.2); have hp_ : Kd.R (Kd.int .i64) 3 w24 w.heap.size (fun _ => True) (.slice (some ⟨go22, 0, none⟩) x3_2.length co9) y1261 := (by rw [hw, Ny1261.out]; exact HP23.1); clear HP23; replace HO_3 := Aside0.mk (hp_); replace HB := Aside0.mk ((by rw [hw]; exact below_set (HB.out) GB22.out : Below w.heap.size w w24)); clear hg hw hp_))
                (try simp only [← hl3_2])
                go_roundg k2
                case measure => have := HK1.out; have := HK2.out; omega
                case rel => exact ⟨(y1261), (wrap64 (x10_1 + 1)), qc_, H', ⟨by have := HK1.out; have := HK2.out; omega⟩, ⟨by (try simp only [hl3_2]); (with_reducible repeat (first | apply Kd.R_alloc | apply Kd.R_drewN | apply Kd.R_drew)); exact HO_3.out⟩, ⟨hB_⟩⟩
            · rw [if_neg c10] at H
              have c10b0 : decide (0 < x6_2) = false := decide_eq_false c10
              clear c10
              have c25 := cp_ H
              replace H := ca_ H
              have c25b0 := decide_eq_true c25
              clear c25
              have c26 := cp_ H
              replace H := ca_ H
              have c26b0 := decide_eq_true c26
              clear c26
              obtain ⟨y1262, hy1262⟩ : ∃ y_ : List Int, y_ = (x3_2.set (x6_2 : Int).toNat (rd l0 x10_1)) := ⟨_, rfl⟩
              replace H : (spec_l04Down.l0 k2 y1262 l0 (l0.length : Int) (wrap64 (x10_1 + 1))) = some r := by first | (rw [hy1262]; exact H) | exact H
              have Ny1262 := Aside0.mk hy1262
              clear hy1262
              have H' := Aside0.mk H
              clear H
              have p27 : 0 ≤ (x6_2 : Int) := of_decide_eq_true qe_
              have q27 : (x6_2 : Int) < ((x3_2.length : Int) : Int) := of_decide_eq_true qe_
              obtain ⟨go27, co27, eo27, gb27, gl27, cl27, HG27⟩ := Kd.R_form HO_3.out (by omega)
              (first | cases eo27 | (injection eo27 with ea_ en_ ec_; (first | subst ea_ | (injection ea_ with ea_; subst ea_)); subst ec_; clear en_))
              have GB27 := Aside0.mk gb27
              have GG27 := Aside0.mk HG27
              clear gb27 gl27 HG27
              obtain ⟨hx27_0, hf27_0⟩ := Kd.R_celln 0 HO_3.out (x6_2 : Int) p27 q27
              replace p27 := eq_true p27
              replace q27 := eq_true q27
              have HP28 := Kd.R_putg HO_3.out (x6_2 : Int) (rd l0 x10_1)
              go_wp2_with (first | ((with_reducible refine gate_store (t := 3) (p := 44) rfl ?_); refine store_event (t := 3) (p := 44) (v := ?vo_w29) (w1 := (wr.setCell ⟨go27, (x6_2 : Int).toNat, none⟩ (.int .i64 (rd l0 x10_1)))) ?hg ?ho ?hn ?hr ?_; (case ho => rfl); (case hg => rfl); (case hn => rfl); (case hr => first | (go_simp; done) | (go_simp; rfl)); intro w29 hw; have hg : wr.grownBy w29 (some go27) := (by rw [hw]; exact HP28.2); have hp_ : Kd.R (Kd.int .i64) 3 w29 w.heap.size (fun _ => True) (.slice (some ⟨go27, 0, none⟩) x3_2.length co9) y1262 := (by rw [hw, Ny1262.out]; exact HP28.1); clear HP28; replace HO_3 := Aside0.mk (hp_); replace HB := Aside0.mk ((by rw [hw]; exact below_set (HB.out) GB27.out : Below w.heap.size w w29)); clear hg hw hp_))
              (try simp only [← hl3_2])
              go_roundg k2
              case measure => have := HK1.out; have := HK2.out; omega
              case rel => exact ⟨(y1262), (wrap64 (x10_1 + 1)), qc_, H', ⟨by have := HK1.out; have := HK2.out; omega⟩, ⟨by (try simp only [hl3_2]); (with_reducible repeat (first | apply Kd.R_alloc | apply Kd.R_drewN | apply Kd.R_drew)); exact HO_3.out⟩, ⟨hB_⟩⟩
      · rw [if_neg c4] at H
        have c4b0 := decide_eq_false c4
        clear c4
        obtain rfl := Option.some.inj H
        go_wp2
        go_ret
        exact ⟨_, qb_, (rr_ HO_3), hB_⟩
end Go.Proofs.Ytoijcallajegfaa.A
end
section
namespace Go.Proofs.Ytoijcallajegfaa.A
open Go.RowKit Go.Proofs.YtoijcallajegfaaW.PrintWords Go.Proofs.YtoijcallajegfaaW.PrintLast Go.Proofs.YtoijcallajegfaaW.PrintMore
attribute [local go_sem] max2_int min2_int max_two min_two max_three min_three max_four min_four
set_option linter.unusedVariables false
set_option linter.unusedSimpArgs false
def spec_l04Lengths.l0 : Nat → List Int → List (List Int) → Int → Int → Option (List Int)
  | 0, _, _, _, _ => none
  | k + 1, x3, x7, x8, x9 => if x9 < x8 then (if 0 ≤ x9 then (if x9 < (x7.length : Int) then (if x3.length < 17592186044416 then (spec_l04Lengths.l0 k (x3 ++ [((rd_L5 x7 x9).length : Int)]) x7 x8 (wrap64 (x9 + 1))) else (none)) else (none)) else (none)) else ((spec_l04Down.f k x3).bind fun t1270 => (some t1270))
def spec_l04Lengths.f (k : Nat) (l0 : List (List Int)) : Option (List Int) := spec_l04Lengths.l0 k (([] : List Int)) l0 (l0.length : Int) 0
theorem spec_l04Lengths.mono_l : ∀ k, (∀ y0 y1 y2 y3, LeO (spec_l04Lengths.l0 k y0 y1 y2 y3) (spec_l04Lengths.l0 (k + 1) y0 y1 y2 y3))
  | 0 => fun _ _ _ _ r h => by simp [spec_l04Lengths.l0] at h
  | k + 1 => by
    have ih0 := spec_l04Lengths.mono_l k
    · intro y0 y1 y2 y3
      unfold spec_l04Lengths.l0
      repeat' first|exact ih0 _ _ _ _|exact spec_l04Down.mono _ _|exact lo_|refine LeO.ite ?_ ?_|refine LeO.bind ?_ (fun _ => ?_)
theorem spec_l04Lengths.mono : ∀ a0 k, LeO (spec_l04Lengths.f k a0) (spec_l04Lengths.f (k + 1) a0) := by
  intro a0 k
  have ih0 := spec_l04Lengths.mono_l k
  unfold spec_l04Lengths.f
  repeat' first|exact ih0 _ _ _ _|exact spec_l04Down.mono _ _|exact lo_|refine LeO.ite ?_ ?_|refine LeO.bind ?_ (fun _ => ?_)
set_option maxHeartbeats 8000000 in
set_option maxRecDepth 100000 in
theorem spec_l04Lengths.calls (k : Nat) (A0 : Option Addr) (c0 : Nat) (l0 : List (List Int)) (r : List Int) (w : World) (hr0 : Kd.C (Kd.slice 3 (Kd.int .i64)) w A0 l0.length l0) (hc0 : l0.length ≤ c0) (h : spec_l04Lengths.f k l0 = some r) :
    Calls Try.prog 187 #[.slice A0 l0.length c0] w fun e w' => ∃ v0_ : Value, e = .returned (v0_) ∧ Kd.R (Kd.int .i64) 3 w' w.heap.size (fun _ => True) v0_ r ∧ Below w.heap.size w w' := by
  have HR0 := Aside0.mk hr0
  have HC0 := Aside0.mk hc0
  clear hr0 hc0
  have HB := Aside0.mk (Below.refl w.heap.size w)
  have H := h
  unfold spec_l04Lengths.f at H
  clear h
  obtain ⟨y1263, hy1263⟩ : ∃ y_ : List Int, y_ = (([] : List Int)) := ⟨_, rfl⟩
  replace H : (spec_l04Lengths.l0 k y1263 l0 (l0.length : Int) 0) = some r := by first | (rw [hy1263]; exact H) | exact H
  have Ny1263 := Aside0.mk hy1263
  clear hy1263
  have H' := Aside0.mk H
  clear H
  go_enter Try.func187, Try.ntmps187
  go_wp2_with (first | ((with_reducible refine gate_dst (N := 6) rfl ?_); refine Kd.R_lit (Kd.int .i64) _ 3 ?hg (N := 6) ?hd (xs := ([] : List Int)) (inner := []) (ok := fun _ => True) (okp := fun _ => True) ?hr ?hp (fun _ hk => hk) trivial (Below.refl _ _) (Nat.le_refl _) (by simp) ?_; (case hd => rfl); (case hg => rfl); (case hr => first | (go_simp; done) | (go_simp; rfl)); (case hp => exact (Reps.none _ _)); intro v1264 w2 ho3 hb hg_ hnew_; clear hg_ hnew_; (first | rw [← Ny1263.out] at ho3 | (simp only [Int.reduceToNat] at ho3; rw [← Ny1263.out] at ho3)); have HO1265 := rl_ w ho3; replace HB := b1_ hb; clear hb ho3))
  go_loopg [3, 9] k (fun kq v3 v9 w' => ∃ (x3_1 : List Int) (x9_1 : Int), v9 = .int .i64 x9_1 ∧ Aside0 (spec_l04Lengths.l0 kq x3_1 l0 (l0.length : Int) x9_1 = some r) ∧ Aside0 (kq ≤ k) ∧ Aside0 (Kd.R (Kd.int .i64) 3 w' w.heap.size (fun _ => True) v3 x3_1) ∧ Aside0 (Below w.heap.size w w'))
  case atStart => exact ⟨(y1263), (0), qc_, H', ⟨Nat.le_refl _⟩, ⟨(rr_ HO1265)⟩, ⟨hB_⟩⟩
  case round =>
    clear H'
    obtain ⟨x3_1, x9_1, rfl, HA, HK1, HO_3, HB⟩ := hrel
    cases gk with
    | zero => exact absurd HA.out (by simp [spec_l04Lengths.l0])
    | succ k1 =>
      have H := HA.out
      clear HA
      simp only [spec_l04Lengths.l0] at H
      by_cases c4 : x9_1 < (l0.length : Int)
      · rw [if_pos c4] at H
        have c4b0 := decide_eq_true c4
        clear c4
        have c5 := cp_ H
        replace H := ca_ H
        have c5b0 := decide_eq_true c5
        clear c5
        have c6 := cp_ H
        replace H := ca_ H
        have c6b0 := decide_eq_true c6
        clear c6
        have c7 := cp_ H
        replace H := ca_ H
        have LMc7 := Aside0.mk c7
        clear c7
        obtain ⟨y1267, hy1267⟩ : ∃ y_ : List Int, y_ = (x3_1 ++ [((rd_L5 l0 x9_1).length : Int)]) := ⟨_, rfl⟩
        replace H : (spec_l04Lengths.l0 k1 y1267 l0 (l0.length : Int) (wrap64 (x9_1 + 1))) = some r := by first | (rw [hy1267]; exact H) | exact H
        have Ny1267 := Aside0.mk hy1267
        clear hy1267
        have H' := Aside0.mk H
        clear H
        have p1266 : 0 ≤ (x9_1 : Int) := of_decide_eq_true qe_
        have q1266 : x9_1 < (l0.length : Int) := of_decide_eq_true qe_
        obtain ⟨ad1266, A1266_0, c1266_0, e1266, hx1266_0, hl1266_0, hi1266_0⟩ := at_L5 HR0.out x9_1 p1266 q1266
        cases e1266
        replace hx1266_0 := (HB.out.cell (World.block_lt_of_cell? w _ hx1266_0)).trans hx1266_0
        have HR1266_0 := Aside0.mk hi1266_0
        have HC1266_0 := Aside0.mk hl1266_0
        clear hi1266_0 hl1266_0
        replace p1266 := eq_true p1266
        replace q1266 := eq_true q1266
        go_wp2_with (first | ((with_reducible refine gate_builtin (b := .append) (xs := #[.tmp 13, .tmp 16]) rfl ?_); at_builtin; refine Kd.R_append (Kd.int .i64) (w0 := w) w.heap.size rfl (.tmp 13) (.tmp 16) 23 3 (.int .i64 0) 8 rfl Try.underlying23 info3 rfl (by decide) (by omega) u3 x3_1 ((rd_L5 l0 x9_1).length : Int) [.int .i64 ((rd_L5 l0 x9_1).length : Int)] (fun _ => True) (fun _ => False) rfl rfl ?aP (fun _ hk => hk.elim) ?aF ?aO ?aB ?aS ?aL ?_; (case aP => exact rfl); (case aB => exact hB_); (case aF => exact (fun _ _ => trivial)); (case aO => exact (rr_ HO_3)); (case aS => exact (below_size hB_)); (case aL => have := LMc7.out; omega); intro v1268 w8 ho hb hg hat; rw [← Ny1267.out] at ho; replace HB := Aside0.mk hb; have HO1269 := Aside0.mk ho; clear HO_3; clear ho hb hg hat))
        go_roundg k1
        case measure => have := HK1.out; omega
        case rel => exact ⟨(y1267), (wrap64 (x9_1 + 1)), qc_, H', ⟨by have := HK1.out; omega⟩, ⟨(rr_ HO1269)⟩, ⟨hB_⟩⟩
      · rw [if_neg c4] at H
        have c4b0 := decide_eq_false c4
        clear c4
        obtain ⟨t1270, A9, H⟩ := bi_ H
        obtain rfl := Option.some.inj H
        obtain ⟨Ao10, co10, eo10⟩ := Kd.R_slice HO_3.out
        subst eo10
        go_wp2_with (first | ((with_reducible refine gate_callee (f := 194) rfl ?_); refine gL_ (some 20) Try.func194 #[.slice Ao10 x3_1.length co10] rfl qa_ ?_; (with_reducible refine (spec_l04Down.calls k1 _ _ x3_1 t1270 _ (cr_ HO_3) ((Kd.R_reads' HO_3.out).2.1) A9.out).mono ?_); rintro e w11 ⟨v1271, rfl, ho0, hb⟩; refine ⟨_, rfl, ?_⟩; have HO1272 := Aside0.mk (Kd.R_lower (Kd.R_new' ho0 (Kd.R_lt (rr_ HO_3))) (below_size hB_)); replace HO_3 := Aside0.mk (Kd.R_elder' (rr_ HO_3) (Kd.R_base ho0) hb); replace HB := b1_ hb; clear hb ho0))
        go_ret
        exact ⟨_, qb_, (rw_ (Kd.R_mono HO1272.out (fun _ hk => trivial))), hB_⟩
end Go.Proofs.Ytoijcallajegfaa.A
end
section
namespace Go.Proofs.Ytoijcallajegfaa.A
open Go.RowKit Go.Proofs.YtoijcallajegfaaW.PrintWords Go.Proofs.YtoijcallajegfaaW.PrintLast Go.Proofs.YtoijcallajegfaaW.PrintMore
attribute [local go_sem] max2_int min2_int max_two min_two max_three min_three max_four min_four
set_option linter.unusedVariables false
set_option linter.unusedSimpArgs false
mutual
def spec_CyclesOf.l0 : Nat → List Int → List (List Int) → List Bool → Int → Int → Option ((List (List Int)))
  | 0, _, _, _, _, _ => none
  | k + 1, x0, x3, x4, x16, x17 => if x17 < x16 then (spec_CyclesOf.l1 k x0 x3 x4 (([] : List Int)) x17 x16 x17) else (some x3)
def spec_CyclesOf.l1 : Nat → List Int → List (List Int) → List Bool → List Int → Int → Int → Int → Option ((List (List Int)))
  | 0, _, _, _, _, _, _, _ => none
  | k + 1, x0, x3, x4, x6, x7, x16, x17 => if 0 ≤ x7 then (if x7 < (x4.length : Int) then (if rdOf false x4 x7 = true then (if (x6.length : Int) > 0 then (if x3.length < 5864062014805 then (spec_CyclesOf.l0 k x0 (x3 ++ [x6]) x4 x16 (wrap64 (x17 + 1))) else (none)) else (spec_CyclesOf.l0 k x0 x3 x4 x16 (wrap64 (x17 + 1)))) else (if x6.length < 17592186044416 then (if x7 < (x0.length : Int) then (spec_CyclesOf.l1 k x0 x3 (x4.set (x7 : Int).toNat true) (x6 ++ [x7]) (rd x0 x7) x16 x17) else (none)) else (none))) else (none)) else (none)
end
def spec_CyclesOf.f (k : Nat) (l0 : List Int) : Option ((List (List Int))) := (spec_PermOk.f k l0).bind fun t1273 => (if t1273 = true then (if 0 ≤ (l0.length : Int) then (if ((l0.length : Int) : Int).toNat ≤ 281474976710656 then (spec_CyclesOf.l0 k l0 (([] : List (List Int))) (List.replicate ((l0.length : Int) : Int).toNat false) (l0.length : Int) 0) else (none)) else (none)) else (some ([] : List (List Int))))
theorem spec_CyclesOf.mono_l : ∀ k, (∀ y0 y1 y2 y3 y4, LeO (spec_CyclesOf.l0 k y0 y1 y2 y3 y4) (spec_CyclesOf.l0 (k + 1) y0 y1 y2 y3 y4)) ∧ (∀ y0 y1 y2 y3 y4 y5 y6, LeO (spec_CyclesOf.l1 k y0 y1 y2 y3 y4 y5 y6) (spec_CyclesOf.l1 (k + 1) y0 y1 y2 y3 y4 y5 y6))
  | 0 => ⟨fun _ _ _ _ _ r h => by simp [spec_CyclesOf.l0] at h, fun _ _ _ _ _ _ _ r h => by simp [spec_CyclesOf.l1] at h⟩
  | k + 1 => by
    obtain ⟨ih0, ih1⟩ := spec_CyclesOf.mono_l k
    refine ⟨?_, ?_⟩
    · intro y0 y1 y2 y3 y4
      unfold spec_CyclesOf.l0
      repeat' first|exact ih0 _ _ _ _ _|exact ih1 _ _ _ _ _ _ _|exact spec_PermOk.mono _ _|exact lo_|refine LeO.ite ?_ ?_|refine LeO.bind ?_ (fun _ => ?_)
    · intro y0 y1 y2 y3 y4 y5 y6
      unfold spec_CyclesOf.l1
      repeat' first|exact ih0 _ _ _ _ _|exact ih1 _ _ _ _ _ _ _|exact spec_PermOk.mono _ _|exact lo_|refine LeO.ite ?_ ?_|refine LeO.bind ?_ (fun _ => ?_)
theorem spec_CyclesOf.mono : ∀ a0 k, LeO (spec_CyclesOf.f k a0) (spec_CyclesOf.f (k + 1) a0) := by
  intro a0 k
  obtain ⟨ih0, ih1⟩ := spec_CyclesOf.mono_l k
  unfold spec_CyclesOf.f
  repeat' first|exact ih0 _ _ _ _ _|exact ih1 _ _ _ _ _ _ _|exact spec_PermOk.mono _ _|exact lo_|refine LeO.ite ?_ ?_|refine LeO.bind ?_ (fun _ => ?_)
set_option maxHeartbeats 8000000 in
set_option maxRecDepth 100000 in
theorem spec_CyclesOf.calls (k : Nat) (A0 : Option Addr) (c0 : Nat) (l0 : List Int) (r : List (List Int)) (w : World) (hr0 : Kd.C (Kd.int .i64) w A0 l0.length l0) (hc0 : l0.length ≤ c0) (h : spec_CyclesOf.f k l0 = some r) :
    Calls Try.prog 195 #[.slice A0 l0.length c0] w fun e w' => ∃ v0_ : Value, e = .returned (v0_) ∧ Kd.S (Kd.slice 3 (Kd.int .i64)) 23 w' w.heap.size (fun _ => True) v0_ r ∧ Below w.heap.size w w' := by
  have HR0 := Aside0.mk hr0
  have HC0 := Aside0.mk hc0
  clear hr0 hc0
  have HB := Aside0.mk (Below.refl w.heap.size w)
  have H := h
  unfold spec_CyclesOf.f at H
  clear h
  obtain ⟨t1273, A2, H⟩ := bi_ H
  by_cases c3 : t1273 = true
  · subst c3
    rw [if_pos rfl] at H
    obtain ⟨y1274, hy1274⟩ : ∃ y_ : List (List Int), y_ = (([] : List (List Int))) := ⟨_, rfl⟩
    replace H : (if 0 ≤ (l0.length : Int) then (if ((l0.length : Int) : Int).toNat ≤ 281474976710656 then (spec_CyclesOf.l0 k l0 y1274 (List.replicate ((l0.length : Int) : Int).toNat false) (l0.length : Int) 0) else (none)) else (none)) = some r := by first | (rw [hy1274]; exact H) | exact H
    have Ny1274 := Aside0.mk hy1274
    clear hy1274
    have c4 := cp_ H
    replace H := ca_ H
    have c4b0 := eq_true c4
    have c4b1 := decide_eq_true c4
    clear c4
    have c5 := cp_ H
    replace H := ca_ H
    have c5b0 := eq_true c5
    have c5b1 := decide_eq_true c5
    clear c5
    obtain ⟨y1277, hy1277⟩ : ∃ y_ : List Bool, y_ = (List.replicate ((l0.length : Int) : Int).toNat false) := ⟨_, rfl⟩
    replace H : (spec_CyclesOf.l0 k l0 y1274 y1277 (l0.length : Int) 0) = some r := by first | (rw [hy1277]; exact H) | exact H
    have Ny1277 := Aside0.mk hy1277
    clear hy1277
    have H' := Aside0.mk H
    clear H
    go_enter Try.func195, Try.ntmps195
    go_wp2_with (first | ((with_reducible refine gate_callee (f := 161) rfl ?_); refine gL_ (some 9) Try.func161 #[.slice A0 l0.length c0] rfl qa_ ?_; (with_reducible refine (spec_PermOk.calls k _ _ l0 true _ (cc_ HR0) HC0.out A2.out).mono ?_); rintro e w' ⟨rfl, ⟨nd, rfl⟩⟩; refine ⟨_, rfl, ?_⟩) | ((with_reducible refine gate_dst (N := 11) rfl ?_); refine Kd.S_lit (Kd.slice 3 (Kd.int .i64)) _ 23 ?hg (N := 11) ?hd (xs := ([] : List (List Int))) (inner := []) (ok := fun _ => True) (okp := fun _ => True) ?hr ?hp (fun _ hk => hk) trivial (Below.refl _ _) (Nat.le_refl _) (by simp) ?_; (case hd => rfl); (case hg => rfl); (case hr => first | (go_simp; done) | (go_simp; rfl)); (case hp => exact (Reps.none _ _)); intro v1275 w6 ho7 hb hg_ hnew_; clear hg_ hnew_; (first | rw [← Ny1274.out] at ho7 | (simp only [Int.reduceToNat] at ho7; rw [← Ny1274.out] at ho7)); have HO1276 := Aside0.mk (Kd.S_lower ho7 (below_size hB_)); replace HB := b1_ hb; clear hb ho7) | ((with_reducible refine gate_dst (N := 14) rfl ?_); refine Kd.R_make Kd.bool _ 4 rfl (N := 14) rfl 111 _ _ rfl (l0.length : Int) rfl rfl Try.underlying111 (.bool false) 1 info4 rfl (by decide) (by omega) false (ok := fun _ => True) (okp := fun _ => True) rfl (fun _ hk => hk) trivial (of_decide_eq_true qe_) (Nat.le_trans (Nat.mul_le_mul_right _ (of_decide_eq_true qe_ : (l0.length : Int).toNat ≤ 281474976710656)) (by omega)) (Below.refl _ _) (Nat.le_refl _) ?_; intro v1278 w8 ho9 hb hg_ hnew_; clear hg_ hnew_; (first | rw [← Ny1277.out] at ho9 | (simp only [Int.reduceToNat] at ho9; rw [← Ny1277.out] at ho9)); replace HO1276 := sb_ HO1276 hb; have HO1279 := rl_ w ho9; replace HB := b1_ hb; clear hb ho9))
    go_loopg [3, 17] k (fun kq v3 v17 w' => ∃ (x3_1 : List (List Int)) (x4_1 : List Bool) (x17_1 : Int), v17 = .int .i64 x17_1 ∧ Aside0 (spec_CyclesOf.l0 kq l0 x3_1 x4_1 (l0.length : Int) x17_1 = some r) ∧ Aside0 (kq ≤ k) ∧ Aside0 (Kd.S (Kd.slice 3 (Kd.int .i64)) 23 w' w.heap.size (fun _ => True) v3 x3_1) ∧ Aside0 (Kd.R Kd.bool 4 w' w.heap.size (fun _ => True) v1278 x4_1) ∧ Aside0 (Below w.heap.size w w'))
    case atStart => exact ⟨(y1274), (y1277), (0), qc_, H', ⟨Nat.le_refl _⟩, ⟨(ss_ HO1276)⟩, ⟨(rr_ HO1279)⟩, ⟨hB_⟩⟩
    case round =>
      clear H'
      obtain ⟨x3_1, x4_1, x17_1, rfl, HA, HK1, HO_3, HO_4, HB⟩ := hrel
      cases gk with
      | zero => exact absurd HA.out (by simp [spec_CyclesOf.l0])
      | succ k1 =>
        have H := HA.out
        clear HA
        simp only [spec_CyclesOf.l0] at H
        by_cases c10 : x17_1 < (l0.length : Int)
        · rw [if_pos c10] at H
          have c10b0 := decide_eq_true c10
          clear c10
          obtain ⟨y1280, hy1280⟩ : ∃ y_ : List Int, y_ = (([] : List Int)) := ⟨_, rfl⟩
          replace H : (spec_CyclesOf.l1 k1 l0 x3_1 x4_1 y1280 x17_1 (l0.length : Int) x17_1) = some r := by first | (rw [hy1280]; exact H) | exact H
          have Ny1280 := Aside0.mk hy1280
          clear hy1280
          have H' := Aside0.mk H
          clear H
          go_wp2_with (first | ((with_reducible refine gate_dst (N := 20) rfl ?_); refine Kd.R_lit (Kd.int .i64) _ 3 ?hg (N := 20) ?hd (xs := ([] : List Int)) (inner := []) (ok := fun _ => True) (okp := fun _ => True) ?hr ?hp (fun _ hk => hk) trivial (Below.refl _ _) (Nat.le_refl _) (by simp) ?_; (case hd => rfl); (case hg => rfl); (case hr => first | (go_simp; done) | (go_simp; rfl)); (case hp => exact (Reps.none _ _)); intro v1281 w11 ho12 hb hg_ hnew_; clear hg_ hnew_; (first | rw [← Ny1280.out] at ho12 | (simp only [Int.reduceToNat] at ho12; rw [← Ny1280.out] at ho12)); replace HO_3 := Aside0.mk (Kd.S_elder' (ss_ HO_3) (Kd.R_base ho12) hb); replace HO_4 := rb_ HO_4 hb; have HO1282 := rl_ w ho12; replace HB := b1_ hb; clear hb ho12))
          go_loopg [6, 7] k1 (fun kq v6 v7 w' => ∃ (x4_2 : List Bool) (x6_2 : List Int) (x7_2 : Int), v7 = .int .i64 x7_2 ∧ Aside0 (spec_CyclesOf.l1 kq l0 x3_1 x4_2 x6_2 x7_2 (l0.length : Int) x17_1 = some r) ∧ Aside0 (kq ≤ k1) ∧ Aside0 (Kd.S (Kd.slice 3 (Kd.int .i64)) 23 w' w.heap.size (fun k_ => some k_ ≠ (v6 : Value).ownBlock) u3 x3_1) ∧ Aside0 (Kd.R Kd.bool 4 w' w.heap.size (fun _ => True) v1278 x4_2) ∧ Aside0 (Kd.R (Kd.int .i64) 3 w' w.heap.size (fun _ => True) v6 x6_2) ∧ Aside0 (Below w.heap.size w w'))
          case atStart => exact ⟨(x4_1), (y1280), (x17_1), qc_, H', ⟨Nat.le_refl _⟩, ⟨(sw_ (Kd.S_mono HO_3.out (fun _ hk => hk.2)))⟩, ⟨(rr_ HO_4)⟩, ⟨(rr_ HO1282)⟩, ⟨hB_⟩⟩
          case round =>
            clear H'
            obtain ⟨x4_2, x6_2, x7_2, rfl, HA, HK2, HO_3, HO_4, HO_6, HB⟩ := hrel
            cases gk with
            | zero => exact absurd HA.out (by simp [spec_CyclesOf.l1])
            | succ k2 =>
              have H := HA.out
              clear HA
              simp only [spec_CyclesOf.l1] at H
              have c13 := cp_ H
              replace H := ca_ H
              have c13b0 := decide_eq_true c13
              clear c13
              have c14 := cp_ H
              replace H := ca_ H
              have c14b0 := decide_eq_true c14
              clear c14
              obtain ⟨bq15, hbq15⟩ : ∃ b_ : Bool, b_ = (rdOf false x4_2 x7_2) := ⟨_, rfl⟩
              replace H : (if bq15 = true then (if (x6_2.length : Int) > 0 then (if x3_1.length < 5864062014805 then (spec_CyclesOf.l0 k2 l0 (x3_1 ++ [x6_2]) x4_2 (l0.length : Int) (wrap64 (x17_1 + 1))) else (none)) else (spec_CyclesOf.l0 k2 l0 x3_1 x4_2 (l0.length : Int) (wrap64 (x17_1 + 1)))) else (if x6_2.length < 17592186044416 then (if x7_2 < (l0.length : Int) then (spec_CyclesOf.l1 k2 l0 x3_1 (x4_2.set (x7_2 : Int).toNat true) (x6_2 ++ [x7_2]) (rd l0 x7_2) (l0.length : Int) x17_1) else (none)) else (none))) = some r := by rw [← hbq15] at H; exact H
              have Nbq15 := Aside0.mk hbq15
              clear hbq15
              by_cases c16 : bq15 = true
              · subst c16
                rw [if_pos rfl] at H
                by_cases c17 : (x6_2.length : Int) > 0
                · rw [if_pos c17] at H
                  have c17b0 : decide (0 < (x6_2.length : Int)) = true := decide_eq_true c17
                  have c17b1 : decide (0 < x6_2.length) = true := decide_eq_true (by omega)
                  clear c17
                  have c18 := cp_ H
                  replace H := ca_ H
                  have LMc18 := Aside0.mk c18
                  clear c18
                  obtain ⟨y1284, hy1284⟩ : ∃ y_ : List (List Int), y_ = (x3_1 ++ [x6_2]) := ⟨_, rfl⟩
                  replace H : (spec_CyclesOf.l0 k2 l0 y1284 x4_2 (l0.length : Int) (wrap64 (x17_1 + 1))) = some r := by first | (rw [hy1284]; exact H) | exact H
                  have Ny1284 := Aside0.mk hy1284
                  clear hy1284
                  have H' := Aside0.mk H
                  clear H
                  obtain ⟨Ao19, co19, eo19⟩ := Kd.R_slice HO_4.out
                  subst eo19
                  have p1283 : 0 ≤ (x7_2 : Int) := of_decide_eq_true qe_
                  have q1283 : x7_2 < (x4_2.length : Int) := of_decide_eq_true qe_
                  obtain ⟨ad1283, e1283, hx1283_0⟩ := Kd.at_bool (Kd.R_reads' HO_4.out).2.2 x7_2 p1283 q1283
                  (try rw [← Nbq15.out] at hx1283_0)
                  cases e1283
                  replace p1283 := eq_true p1283
                  replace q1283 := eq_true q1283
                  obtain ⟨Ao20, co20, eo20⟩ := Kd.R_slice HO_6.out
                  subst eo20
                  go_wp2_with (first | ((with_reducible refine gate_builtin (b := .append) (xs := #[.tmp 41, .tmp 43]) rfl ?_); at_builtin; refine Kd.S_append (Kd.slice 3 (Kd.int .i64)) (w0 := w) w.heap.size rfl (.tmp 41) (.tmp 43) 28 23 (.slice none 0 0) 24 rfl Try.underlying28 info23 rfl (by decide) (by omega) u3 x3_1 x6_2 [.slice Ao20 x6_2.length co20] (fun _ => True) (fun k_ => some k_ = (.slice Ao20 x6_2.length co20 : Value).ownBlock) rfl rfl ?aP (fun k_ hk_ => ((Kd.R_mono (ok' := fun k_ => ((fun _ => True)) k_ ∧ some k_ ≠ (u3 : Value).ownBlock) (Kd.R_apart' (HO_6.out) (Kd.S_typed HO_3.out) (by decide)) (fun k_ hk => ⟨trivial, hk.2⟩))).1 k_ hk_.symm) ?aF ?aO ?aB ?aS ?aL ?_; (case aP => exact Kd.M_row (Kd.R_mono (Kd.R_tight rfl (Kd.R_mono (ok' := fun k_ => ((fun _ => True)) k_ ∧ some k_ ≠ (u3 : Value).ownBlock) (Kd.R_apart' (HO_6.out) (Kd.S_typed HO_3.out) (by decide)) (fun k_ hk => ⟨trivial, hk.2⟩))) (fun _ h_ => h_))); (case aB => exact hB_); (case aF => exact (fun _ _ => trivial)); (case aO => exact (sw_ (Kd.S_mono HO_3.out (fun k_ hk => ⟨trivial, fun e_ => hk e_⟩)))); (case aS => exact (below_size hB_)); (case aL => have := LMc18.out; omega); intro v1285 w21 ho hb hg hat; rw [← Ny1284.out] at ho; replace HO_4 := Aside0.mk (Kd.R_over' (rr_ HO_4) (Kd.S_typed (ss_ HO_3)) (by decide) hg); replace HB := Aside0.mk hb; have HO1286 := Aside0.mk ho; clear HO_3 HO_6; clear ho hb hg hat))
                  go_roundg k2
                  case measure => have := HK1.out; have := HK2.out; omega
                  case rel => exact ⟨(y1284), (x4_2), (wrap64 (x17_1 + 1)), qc_, H', ⟨by have := HK1.out; have := HK2.out; omega⟩, ⟨(ss_ HO1286)⟩, ⟨(rr_ HO_4)⟩, ⟨hB_⟩⟩
                · rw [if_neg c17] at H
                  have c17b0 : decide (0 < (x6_2.length : Int)) = false := decide_eq_false c17
                  have c17b1 : decide (0 < x6_2.length) = false := decide_eq_false (by omega)
                  clear c17
                  have H' := Aside0.mk H
                  clear H
                  obtain ⟨Ao22, co22, eo22⟩ := Kd.R_slice HO_4.out
                  subst eo22
                  have p1283 : 0 ≤ (x7_2 : Int) := of_decide_eq_true qe_
                  have q1283 : x7_2 < (x4_2.length : Int) := of_decide_eq_true qe_
                  obtain ⟨ad1283, e1283, hx1283_0⟩ := Kd.at_bool (Kd.R_reads' HO_4.out).2.2 x7_2 p1283 q1283
                  (try rw [← Nbq15.out] at hx1283_0)
                  cases e1283
                  replace p1283 := eq_true p1283
                  replace q1283 := eq_true q1283
                  obtain ⟨Ao23, co23, eo23⟩ := Kd.R_slice HO_6.out
                  subst eo23
                  go_wp2
                  go_roundg k2
                  case measure => have := HK1.out; have := HK2.out; omega
                  case rel => exact ⟨(x3_1), (x4_2), (wrap64 (x17_1 + 1)), qc_, H', ⟨by have := HK1.out; have := HK2.out; omega⟩, ⟨(sw_ (Kd.S_mono HO_3.out (fun _ hk => trivial)))⟩, ⟨(rr_ HO_4)⟩, ⟨hB_⟩⟩
              · replace c16 := Bool.eq_false_iff.mpr c16
                subst c16
                have H1 : (if x6_2.length < 17592186044416 then (if x7_2 < (l0.length : Int) then (spec_CyclesOf.l1 k2 l0 x3_1 (x4_2.set (x7_2 : Int).toNat true) (x6_2 ++ [x7_2]) (rd l0 x7_2) (l0.length : Int) x17_1) else (none)) else (none)) = some r := by rw [if_neg (show ¬ (false = true) by decide)] at H; exact H
                clear H
                have H := H1
                clear H1
                obtain ⟨y1287, hy1287⟩ : ∃ y_ : List Bool, y_ = (x4_2.set (x7_2 : Int).toNat true) := ⟨_, rfl⟩
                replace H : (if x6_2.length < 17592186044416 then (if x7_2 < (l0.length : Int) then (spec_CyclesOf.l1 k2 l0 x3_1 y1287 (x6_2 ++ [x7_2]) (rd l0 x7_2) (l0.length : Int) x17_1) else (none)) else (none)) = some r := by first | (rw [hy1287]; exact H) | exact H
                have Ny1287 := Aside0.mk hy1287
                clear hy1287
                have c25 := cp_ H
                replace H := ca_ H
                have LMc25 := Aside0.mk c25
                clear c25
                obtain ⟨y1288, hy1288⟩ : ∃ y_ : List Int, y_ = (x6_2 ++ [x7_2]) := ⟨_, rfl⟩
                replace H : (if x7_2 < (l0.length : Int) then (spec_CyclesOf.l1 k2 l0 x3_1 y1287 y1288 (rd l0 x7_2) (l0.length : Int) x17_1) else (none)) = some r := by first | (rw [hy1288]; exact H) | exact H
                have Ny1288 := Aside0.mk hy1288
                clear hy1288
                have c26 := cp_ H
                replace H := ca_ H
                have c26b0 := decide_eq_true c26
                clear c26
                have H' := Aside0.mk H
                clear H
                obtain ⟨Ao27, co27, eo27⟩ := Kd.R_slice HO_4.out
                subst eo27
                have p1283 : 0 ≤ (x7_2 : Int) := of_decide_eq_true qe_
                have q1283 : x7_2 < (x4_2.length : Int) := of_decide_eq_true qe_
                obtain ⟨ad1283, e1283, hx1283_0⟩ := Kd.at_bool (Kd.R_reads' HO_4.out).2.2 x7_2 p1283 q1283
                (try rw [← Nbq15.out] at hx1283_0)
                cases e1283
                replace p1283 := eq_true p1283
                replace q1283 := eq_true q1283
                have p24 : 0 ≤ (x7_2 : Int) := of_decide_eq_true qe_
                have q24 : (x7_2 : Int) < ((x4_2.length : Int) : Int) := of_decide_eq_true qe_
                obtain ⟨go24, co24, eo24, gb24, gl24, cl24, HG24⟩ := Kd.R_form HO_4.out (by omega)
                (first | cases eo24 | (injection eo24 with ea_ en_ ec_; (first | subst ea_ | (injection ea_ with ea_; subst ea_)); subst ec_; clear en_))
                have GB24 := Aside0.mk gb24
                have GG24 := Aside0.mk HG24
                clear gb24 gl24 HG24
                (first | simp only [add_plain] at hx1283_0 | skip)
                obtain ⟨hx24_0, hf24_0⟩ := Kd.R_celln false HO_4.out (x7_2 : Int) p24 q24
                replace p24 := eq_true p24
                replace q24 := eq_true q24
                have HP28 := Kd.R_putg HO_4.out (x7_2 : Int) true
                go_wp2_with (first | ((with_reducible refine gate_store (t := 4) (p := 33) rfl ?_); refine store_event (t := 4) (p := 33) (v := ?vo_w29) (w1 := (wr.setCell ⟨go24, (x7_2 : Int).toNat, none⟩ (.bool true))) ?hg ?ho ?hn ?hr ?_; (case ho => rfl); (case hg => rfl); (case hn => rfl); (case hr => first | (go_simp; done) | (go_simp; rfl)); intro w29 hw; have hg : wr.grownBy w29 (some go24) := (by rw [hw]; exact HP28.2); have hp_ : Kd.R Kd.bool 4 w29 w.heap.size (fun _ => True) (.slice (some ⟨go24, 0, none⟩) x4_2.length co27) y1287 := (by rw [hw, Ny1287.out]; exact HP28.1); clear HP28; replace HO_3 := Aside0.mk (Kd.S_over' (v := (.slice (some ⟨go24, 0, none⟩) x4_2.length co27)) (ss_ HO_3) (Kd.R_typed HO_4.out) (by decide) hg); replace HO_6 := Aside0.mk (Kd.R_over' (v := (.slice (some ⟨go24, 0, none⟩) x4_2.length co27)) (rr_ HO_6) (Kd.R_typed HO_4.out) (by decide) hg); replace HO_4 := Aside0.mk (hp_); replace HB := Aside0.mk ((by rw [hw]; exact below_set (HB.out) GB24.out : Below w.heap.size w w29)); clear hg hw hp_) | ((with_reducible refine gate_builtin (b := .append) (xs := #[.tmp 34, .tmp 36]) rfl ?_); at_builtin; refine Kd.R_append (Kd.int .i64) (w0 := w) w.heap.size rfl (.tmp 34) (.tmp 36) 23 3 (.int .i64 0) 8 rfl Try.underlying23 info3 rfl (by decide) (by omega) u6 x6_2 x7_2 [.int .i64 x7_2] (fun _ => True) (fun _ => False) rfl rfl ?aP (fun _ hk => hk.elim) ?aF ?aO ?aB ?aS ?aL ?_; (case aP => exact rfl); (case aB => exact hB_); (case aF => exact (fun _ _ => trivial)); (case aO => exact (rr_ HO_6)); (case aS => exact (below_size hB_)); (case aL => have := LMc25.out; omega); intro v1289 w30 ho hb hg hat; rw [← Ny1288.out] at ho; replace HO_3 := Aside0.mk (Kd.S_after (ok := (fun _ => True)) (sw_ (Kd.S_mono HO_3.out (fun _ hk => ⟨trivial, hk⟩))) hg hat); replace HO_4 := Aside0.mk (Kd.R_over' (rr_ HO_4) (Kd.R_typed (rr_ HO_6)) (by decide) hg); replace HB := Aside0.mk hb; have HO1290 := Aside0.mk ho; clear HO_6; clear ho hb hg hat; have p1291 : 0 ≤ (x7_2 : Int) := of_decide_eq_true qe_; have q1291 : x7_2 < (l0.length : Int) := of_decide_eq_true qe_; obtain ⟨ad1291, e1291, hx1291_0⟩ := Kd.at_int HR0.out x7_2 p1291 q1291; cases e1291; replace hx1291_0 := (HB.out.cell (World.block_lt_of_cell? w _ hx1291_0)).trans hx1291_0; replace p1291 := eq_true p1291; replace q1291 := eq_true q1291))
                go_roundg k2
                case measure => have := HK1.out; have := HK2.out; omega
                case rel => exact ⟨(y1287), (y1288), (rd l0 x7_2), qc_, H', ⟨by have := HK1.out; have := HK2.out; omega⟩, ⟨(sw_ (Kd.S_mono HO_3.out (fun _ hk => hk.2)))⟩, ⟨(rr_ HO_4)⟩, ⟨(rr_ HO1290)⟩, ⟨hB_⟩⟩
        · rw [if_neg c10] at H
          have c10b0 := decide_eq_false c10
          clear c10
          obtain rfl := Option.some.inj H
          go_wp2
          go_ret
          exact ⟨_, qb_, (ss_ HO_3), hB_⟩
  · replace c3 := Bool.eq_false_iff.mpr c3
    subst c3
    have H1 : (some ([] : List (List Int))) = some r := by rw [if_neg (show ¬ (false = true) by decide)] at H; exact H
    clear H
    have H := H1
    clear H1
    obtain rfl := Option.some.inj H
    go_enter Try.func195, Try.ntmps195
    go_wp2_with (first | ((with_reducible refine gate_callee (f := 161) rfl ?_); refine gL_ (some 9) Try.func161 #[.slice A0 l0.length c0] rfl qa_ ?_; (with_reducible refine (spec_PermOk.calls k _ _ l0 false _ (cc_ HR0) HC0.out A2.out).mono ?_); rintro e w' ⟨rfl, ⟨nd, rfl⟩⟩; refine ⟨_, rfl, ?_⟩))
    go_ret
    exact ⟨_, qb_, by first | exact Kd.S_nil _ _ _ _ _ | exact Kd.N_nil _ _ _ _ _ | exact Kd.V_nil _ _ _ _ _ | exact Kd.Q_nil _ _ _ _ _ | exact Kd.R_nil _ _ _ _ _, hB_⟩
end Go.Proofs.Ytoijcallajegfaa.A
end
section
namespace Go.Proofs.Ytoijcallajegfaa.A
open Go.RowKit Go.Proofs.YtoijcallajegfaaW.PrintWords Go.Proofs.YtoijcallajegfaaW.PrintLast Go.Proofs.YtoijcallajegfaaW.PrintMore
attribute [local go_sem] max2_int min2_int max_two min_two max_three min_three max_four min_four
set_option linter.unusedVariables false
set_option linter.unusedSimpArgs false
def spec_l02Then.l0 : Nat → List Int → List Int → List Int → Int → Int → Option (List Int)
  | 0, _, _, _, _, _ => none
  | k + 1, x1, x5, x9, x10, x11 => if x11 < x10 then (if 0 ≤ x11 then (if x11 < (x9.length : Int) then (if 0 ≤ (rd x9 x11) then (if (rd x9 x11) < (x1.length : Int) then (if x5.length < 17592186044416 then (spec_l02Then.l0 k x1 (x5 ++ [rd x1 (rd x9 x11)]) x9 x10 (wrap64 (x11 + 1))) else (none)) else (none)) else (none)) else (none)) else (none)) else (some x5)
def spec_l02Then.f (k : Nat) (l0 : List Int) (l1 : List Int) : Option (List Int) := spec_l02Then.l0 k l1 (([] : List Int)) l0 (l0.length : Int) 0
theorem spec_l02Then.mono_l : ∀ k, (∀ y0 y1 y2 y3 y4, LeO (spec_l02Then.l0 k y0 y1 y2 y3 y4) (spec_l02Then.l0 (k + 1) y0 y1 y2 y3 y4))
  | 0 => fun _ _ _ _ _ r h => by simp [spec_l02Then.l0] at h
  | k + 1 => by
    have ih0 := spec_l02Then.mono_l k
    · intro y0 y1 y2 y3 y4
      unfold spec_l02Then.l0
      repeat' first|exact ih0 _ _ _ _ _|exact lo_|refine LeO.ite ?_ ?_|refine LeO.bind ?_ (fun _ => ?_)
theorem spec_l02Then.mono : ∀ a0 a1 k, LeO (spec_l02Then.f k a0 a1) (spec_l02Then.f (k + 1) a0 a1) := by
  intro a0 a1 k
  have ih0 := spec_l02Then.mono_l k
  unfold spec_l02Then.f
  repeat' first|exact ih0 _ _ _ _ _|exact lo_|refine LeO.ite ?_ ?_|refine LeO.bind ?_ (fun _ => ?_)
set_option maxHeartbeats 8000000 in
set_option maxRecDepth 100000 in
theorem spec_l02Then.calls (k : Nat) (A0 : Option Addr) (c0 : Nat) (l0 : List Int) (A1 : Option Addr) (c1 : Nat) (l1 : List Int) (r : List Int) (w : World) (hr0 : Kd.C (Kd.int .i64) w A0 l0.length l0) (hc0 : l0.length ≤ c0) (hr1 : Kd.C (Kd.int .i64) w A1 l1.length l1) (hc1 : l1.length ≤ c1) (h : spec_l02Then.f k l0 l1 = some r) :
    Calls Try.prog 110 #[.slice A0 l0.length c0, .slice A1 l1.length c1] w fun e w' => ∃ v0_ : Value, e = .returned (v0_) ∧ Kd.R (Kd.int .i64) 3 w' w.heap.size (fun _ => True) v0_ r ∧ Below w.heap.size w w' := by
  have HR0 := Aside0.mk hr0
  have HC0 := Aside0.mk hc0
  clear hr0 hc0
  have HR1 := Aside0.mk hr1
  have HC1 := Aside0.mk hc1
  clear hr1 hc1
  have HB := Aside0.mk (Below.refl w.heap.size w)
  have H := h
  unfold spec_l02Then.f at H
  clear h
  obtain ⟨y476, hy476⟩ : ∃ y_ : List Int, y_ = (([] : List Int)) := ⟨_, rfl⟩
  replace H : (spec_l02Then.l0 k l1 y476 l0 (l0.length : Int) 0) = some r := by first | (rw [hy476]; exact H) | exact H
  have Ny476 := Aside0.mk hy476
  clear hy476
  have H' := Aside0.mk H
  clear H
  go_enter Try.func110, Try.ntmps110
  go_wp2_with (first | ((with_reducible refine gate_dst (N := 8) rfl ?_); refine Kd.R_lit (Kd.int .i64) _ 3 ?hg (N := 8) ?hd (xs := ([] : List Int)) (inner := []) (ok := fun _ => True) (okp := fun _ => True) ?hr ?hp (fun _ hk => hk) trivial (Below.refl _ _) (Nat.le_refl _) (by simp) ?_; (case hd => rfl); (case hg => rfl); (case hr => first | (go_simp; done) | (go_simp; rfl)); (case hp => exact (Reps.none _ _)); intro v477 w3 ho4 hb hg_ hnew_; clear hg_ hnew_; (first | rw [← Ny476.out] at ho4 | (simp only [Int.reduceToNat] at ho4; rw [← Ny476.out] at ho4)); have HO478 := rl_ w ho4; replace HB := b1_ hb; clear hb ho4))
  go_loopg [5, 11] k (fun kq v5 v11 w' => ∃ (x5_1 : List Int) (x11_1 : Int), v11 = .int .i64 x11_1 ∧ Aside0 (spec_l02Then.l0 kq l1 x5_1 l0 (l0.length : Int) x11_1 = some r) ∧ Aside0 (kq ≤ k) ∧ Aside0 (Kd.R (Kd.int .i64) 3 w' w.heap.size (fun _ => True) v5 x5_1) ∧ Aside0 (Below w.heap.size w w'))
  case atStart => exact ⟨(y476), (0), qc_, H', ⟨Nat.le_refl _⟩, ⟨(rr_ HO478)⟩, ⟨hB_⟩⟩
  case round =>
    clear H'
    obtain ⟨x5_1, x11_1, rfl, HA, HK1, HO_5, HB⟩ := hrel
    cases gk with
    | zero => exact absurd HA.out (by simp [spec_l02Then.l0])
    | succ k1 =>
      have H := HA.out
      clear HA
      simp only [spec_l02Then.l0] at H
      by_cases c5 : x11_1 < (l0.length : Int)
      · rw [if_pos c5] at H
        have c5b0 := decide_eq_true c5
        clear c5
        have c6 := cp_ H
        replace H := ca_ H
        have c6b0 := decide_eq_true c6
        clear c6
        have c7 := cp_ H
        replace H := ca_ H
        have c7b0 := decide_eq_true c7
        clear c7
        have c8 := cp_ H
        replace H := ca_ H
        have c8b0 := decide_eq_true c8
        clear c8
        have c9 := cp_ H
        replace H := ca_ H
        have c9b0 := decide_eq_true c9
        clear c9
        have c10 := cp_ H
        replace H := ca_ H
        have LMc10 := Aside0.mk c10
        clear c10
        obtain ⟨y481, hy481⟩ : ∃ y_ : List Int, y_ = (x5_1 ++ [rd l1 (rd l0 x11_1)]) := ⟨_, rfl⟩
        replace H : (spec_l02Then.l0 k1 l1 y481 l0 (l0.length : Int) (wrap64 (x11_1 + 1))) = some r := by first | (rw [hy481]; exact H) | exact H
        have Ny481 := Aside0.mk hy481
        clear hy481
        have H' := Aside0.mk H
        clear H
        have p479 : 0 ≤ (x11_1 : Int) := of_decide_eq_true qe_
        have q479 : x11_1 < (l0.length : Int) := of_decide_eq_true qe_
        obtain ⟨ad479, e479, hx479_0⟩ := Kd.at_int HR0.out x11_1 p479 q479
        cases e479
        replace hx479_0 := (HB.out.cell (World.block_lt_of_cell? w _ hx479_0)).trans hx479_0
        replace p479 := eq_true p479
        replace q479 := eq_true q479
        have p480 : 0 ≤ ((rd l0 x11_1) : Int) := of_decide_eq_true qe_
        have q480 : (rd l0 x11_1) < (l1.length : Int) := of_decide_eq_true qe_
        obtain ⟨ad480, e480, hx480_0⟩ := Kd.at_int HR1.out (rd l0 x11_1) p480 q480
        cases e480
        replace hx480_0 := (HB.out.cell (World.block_lt_of_cell? w _ hx480_0)).trans hx480_0
        replace p480 := eq_true p480
        replace q480 := eq_true q480
        go_wp2_with (first | ((with_reducible refine gate_builtin (b := .append) (xs := #[.tmp 15, .tmp 20]) rfl ?_); at_builtin; refine Kd.R_append (Kd.int .i64) (w0 := w) w.heap.size rfl (.tmp 15) (.tmp 20) 23 3 (.int .i64 0) 8 rfl Try.underlying23 info3 rfl (by decide) (by omega) u5 x5_1 (rd l1 (rd l0 x11_1)) [.int .i64 (rd l1 (rd l0 x11_1))] (fun _ => True) (fun _ => False) rfl rfl ?aP (fun _ hk => hk.elim) ?aF ?aO ?aB ?aS ?aL ?_; (case aP => exact rfl); (case aB => exact hB_); (case aF => exact (fun _ _ => trivial)); (case aO => exact (rr_ HO_5)); (case aS => exact (below_size hB_)); (case aL => have := LMc10.out; omega); intro v482 w11 ho hb hg hat; rw [← Ny481.out] at ho; replace HB := Aside0.mk hb; have HO483 := Aside0.mk ho; clear HO_5; clear ho hb hg hat))
        go_roundg k1
        case measure => have := HK1.out; omega
        case rel => exact ⟨(y481), (wrap64 (x11_1 + 1)), qc_, H', ⟨by have := HK1.out; omega⟩, ⟨(rr_ HO483)⟩, ⟨hB_⟩⟩
      · rw [if_neg c5] at H
        have c5b0 := decide_eq_false c5
        clear c5
        obtain rfl := Option.some.inj H
        go_wp2
        go_ret
        exact ⟨_, qb_, (rr_ HO_5), hB_⟩
end Go.Proofs.Ytoijcallajegfaa.A
end
section
namespace Go.Proofs.Ytoijcallajegfaa.A
open Go.RowKit Go.Proofs.YtoijcallajegfaaW.PrintWords Go.Proofs.YtoijcallajegfaaW.PrintLast Go.Proofs.YtoijcallajegfaaW.PrintMore
attribute [local go_sem] max2_int min2_int max_two min_two max_three min_three max_four min_four
set_option linter.unusedVariables false
set_option linter.unusedSimpArgs false
def spec_l04Around.f (k : Nat) (l0_0 : List Int) (l0_1 : List Int) : Option (List Int) := (spec_l02Then.f k l0_0 l0_1).bind fun t1293 => ((spec_l02Inverse.f k l0_0).bind fun t1296 => ((spec_l02Inverse.f k l0_1).bind fun t1299 => ((spec_l02Then.f k t1296 t1299).bind fun t1302 => ((spec_l02Then.f k t1293 t1302).bind fun t1305 => (some t1305)))))
theorem spec_l04Around.mono : ∀ a0 a1 k, LeO (spec_l04Around.f k a0 a1) (spec_l04Around.f (k + 1) a0 a1) := by
  intro a0 a1 k
  unfold spec_l04Around.f
  repeat' first|exact spec_l02Inverse.mono _ _|exact spec_l02Then.mono _ _ _|exact lo_|refine LeO.ite ?_ ?_|refine LeO.bind ?_ (fun _ => ?_)
def spec_l04Around.T2 : Bool × List (List Nat × List Nat) := (true, [([], []), ([0], [0]), ([1], [1]), ([], []), ([3], [3]), ([4, 2], [4]), ([2, 5, 5], [2, 5]), ([6, 6, 0, 1, 2, 3, 4, 5, 6], [6])])
def spec_l04Around.B2 : List Nat := [0, 1, 3, 0, 8, 31, 63, 127]
theorem spec_l04Around.tab2 : rtab .any (opsOf Try.f196 2) = spec_l04Around.T2 := by kernel_rfl
theorem spec_l04Around.bits2 : waitsOk spec_l04Around.T2.2 spec_l04Around.B2 = true := by kernel_rfl
set_option maxHeartbeats 8000000 in
set_option maxRecDepth 100000 in
theorem spec_l04Around.calls (k : Nat) (A0_0 : Option Addr) (c0_0 : Nat) (l0_0 : List Int) (A0_1 : Option Addr) (c0_1 : Nat) (l0_1 : List Int) (r : List Int) (w : World) (hr0_0 : Kd.C (Kd.int .i64) w A0_0 l0_0.length l0_0) (hc0_0 : l0_0.length ≤ c0_0) (hr0_1 : Kd.C (Kd.int .i64) w A0_1 l0_1.length l0_1) (hc0_1 : l0_1.length ≤ c0_1) (h : spec_l04Around.f k l0_0 l0_1 = some r) :
    Calls Try.prog 196 #[.agg #[.slice A0_0 l0_0.length c0_0, .slice A0_1 l0_1.length c0_1]] w fun e w' => ∃ v0_ : Value, e = .returned (v0_) ∧ Kd.R (Kd.int .i64) 3 w' w.heap.size (fun _ => True) v0_ r ∧ Below w.heap.size w w' := by
  have hu33 := Try.underlying33
  have HR0_0 := Aside0.mk hr0_0
  have HC0_0 := Aside0.mk hc0_0
  clear hr0_0 hc0_0
  have HR0_1 := Aside0.mk hr0_1
  have HC0_1 := Aside0.mk hc0_1
  clear hr0_1 hc0_1
  have HB := Aside0.mk (Below.refl w.heap.size w)
  have H := h
  unfold spec_l04Around.f at H
  clear h
  obtain ⟨t1293, A2, H⟩ := bi_ H
  obtain ⟨t1296, A3, H⟩ := bi_ H
  obtain ⟨t1299, A4, H⟩ := bi_ H
  obtain ⟨t1302, A5, H⟩ := bi_ H
  obtain ⟨t1305, A6, H⟩ := bi_ H
  obtain rfl := Option.some.inj H
  go_enter Try.func196, Try.ntmps196
  try go_wp2_with (first | ((with_reducible refine gate_dst (N := 1) rfl ?_); refine bx_ 1 #[.slice A0_0 l0_0.length c0_0, .slice A0_1 l0_1.length c0_1] 33 ?_; intro gb1292 hg w7 hbox hb; have BK1292 := Aside0.mk hbox; have GW1292 := gw_ w hg; have GE1292 := GW1292; replace HB := b1_ hb; clear hb hbox hg; obtain ⟨hcz8_0, hcz8_1, hfz8_0, hfz8_1⟩ := c2_ BK1292) | ((with_reducible refine gate_callee (f := 110) rfl ?_); refine gL_ (some 9) Try.func110 #[.slice A0_0 l0_0.length c0_0, .slice A0_1 l0_1.length c0_1] rfl qa_ ?_; (with_reducible refine (spec_l02Then.calls k _ _ l0_0 _ _ l0_1 t1293 _ (cb_ HR0_0) HC0_0.out (cb_ HR0_1) HC0_1.out A2.out).mono ?_); rintro e w9 ⟨v1294, rfl, ho0, hb⟩; refine ⟨_, rfl, ?_⟩; have HO1295 := rl_ w ho0; replace BK1292 := bb_ BK1292 hb; replace HB := b1_ hb; clear hb ho0))
  replace HO1295 := Aside0.mk (Kd.R_drew HO1295.out)
  replace BK1292 := Aside0.mk (blk_drew BK1292.out)
  replace HB := Aside0.mk (below_drew1 HB.out)
  refine start_ (n := 8) (S := fun w' => w'.cell? ⟨gb1292, 0, none⟩ = some (.slice A0_0 l0_0.length c0_0) ∧ w'.cell? ⟨gb1292, 1, none⟩ = some (.slice A0_1 l0_1.length c0_1)) (ds := []) (bl_ 8 0) (by kernel_rfl) rfl (by kernel_rfl) ⟨cz0_ BK1292, cz1_ BK1292⟩ (fun hHeld => ?_); refine with_tabW spec_l04Around.tab2 spec_l04Around.bits2 (fun HT_ HW_ => ?_)
  generalize w9.drew = w10 at HO1295 BK1292 HB hHeld ⊢
  refine pu_ 0 (some 10) (bl_ 8 1) HT_ ?_
  refine pu_ 3 (some 13) (bl_ 8 9) HT_ ?_
  refine ta_ 1 (some 11) (bl_ 8 11) HT_ HW_ hHeld ?_
  refine ta_ 4 (some 14) (bl_ 8 27) HT_ HW_ hHeld ?_
  refine on_ 2 (some 12) (bl_ 8 31) HT_ (fun K hK => ?_)
  refine gO_ Try.func111 #[.slice A0_0 l0_0.length c0_0] (by rfl) rfl rfl qa_ ?_
  with_reducible refine (spec_l02Inverse.calls k _ _ l0_0 t1296 _ (cb_ HR0_0) HC0_0.out A3.out).mono ?_
  rintro e w11 ⟨v1297, rfl, ho0, hb⟩
  refine ⟨_, rfl, ?_⟩
  have HO1298 := Aside0.mk (Kd.R_lower (Kd.R_new' ho0 (Kd.R_lt (rr_ HO1295))) (below_size hB_))
  replace HO1295 := Aside0.mk (Kd.R_elder' (rr_ HO1295) (Kd.R_base ho0) hb)
  replace BK1292 := bb_ BK1292 hb
  replace HB := b1_ hb
  clear hb ho0
  refine hK.out _ _ ⟨cz0_ BK1292, cz1_ BK1292⟩ (fun hHeld => ?_)
  clear hK K
  refine no_ (some 12) ?_
  refine on_ 5 (some 15) (bl_ 8 63) HT_ (fun K hK => ?_)
  refine gO_ Try.func111 #[.slice A0_1 l0_1.length c0_1] (by rfl) rfl rfl qa_ ?_
  with_reducible refine (spec_l02Inverse.calls k _ _ l0_1 t1299 _ (cb_ HR0_1) HC0_1.out A4.out).mono ?_
  rintro e w12 ⟨v1300, rfl, ho0, hb⟩
  refine ⟨_, rfl, ?_⟩
  have HO1301 := Aside0.mk (Kd.R_lower (Kd.R_new' (Kd.R_new' ho0 (Kd.R_lt (rr_ HO1295))) (Kd.R_lt (rr_ HO1298))) (below_size hB_))
  replace HO1295 := Aside0.mk (Kd.R_elder' (rr_ HO1295) (Kd.R_base ho0) hb)
  replace HO1298 := Aside0.mk (Kd.R_elder' (rr_ HO1298) (Kd.R_base ho0) hb)
  replace BK1292 := bb_ BK1292 hb
  replace HB := b1_ hb
  clear hb ho0
  obtain ⟨Ao13, co13, eo13⟩ := Kd.R_slice HO1298.out
  (first | subst eo13 | (injection eo13 with f1_ f2_ f3_; have f4_ := f1_.symm; have f5_ := f3_.symm; clear f1_ f2_ f3_; subst f4_; subst f5_))
  obtain ⟨Ao14, co14, eo14⟩ := Kd.R_slice HO1301.out
  (first | subst eo14 | (injection eo14 with f1_ f2_ f3_; have f4_ := f1_.symm; have f5_ := f3_.symm; clear f1_ f2_ f3_; subst f4_; subst f5_))
  refine hK.out _ _ ⟨cz0_ BK1292, cz1_ BK1292⟩ (fun hHeld => ?_)
  clear hK K
  refine no_ (some 15) ?_
  refine on_ 6 (some 16) (bl_ 8 127) HT_ (fun K hK => ?_)
  refine gO_ Try.func110 #[.slice Ao13 t1296.length co13, .slice Ao14 t1299.length co14] (by rfl) rfl rfl qa_ ?_
  with_reducible refine (spec_l02Then.calls k _ _ t1296 _ _ t1299 t1302 _ (cr_ HO1298) ((Kd.R_reads' HO1298.out).2.1) (cr_ HO1301) ((Kd.R_reads' HO1301.out).2.1) A5.out).mono ?_
  rintro e w15 ⟨v1303, rfl, ho0, hb⟩
  refine ⟨_, rfl, ?_⟩
  have HO1304 := Aside0.mk (Kd.R_lower (Kd.R_new' (Kd.R_new' (Kd.R_new' ho0 (Kd.R_lt (rr_ HO1295))) (Kd.R_lt (rr_ HO1298))) (Kd.R_lt (rr_ HO1301))) (below_size hB_))
  replace HO1295 := Aside0.mk (Kd.R_elder' (rr_ HO1295) (Kd.R_base ho0) hb)
  replace HO1298 := Aside0.mk (Kd.R_elder' (rr_ HO1298) (Kd.R_base ho0) hb)
  replace HO1301 := Aside0.mk (Kd.R_elder' (rr_ HO1301) (Kd.R_base ho0) hb)
  replace BK1292 := bb_ BK1292 hb
  replace HB := b1_ hb
  clear hb ho0
  refine hK.out _ _ ⟨cz0_ BK1292, cz1_ BK1292⟩ (fun hHeld => ?_)
  clear hK K
  refine no_ (some 16) ?_
  refine pu_ 7 (some 4) (bl_ 8 255) HT_ ?_
  refine done_ (done_of HT_.out (by kernel_rfl)) ?_
  obtain ⟨Ao16, co16, eo16⟩ := Kd.R_slice HO1295.out
  subst eo16
  obtain ⟨Ao17, co17, eo17⟩ := Kd.R_slice HO1304.out
  subst eo17
  try go_wp2_with (first | ((with_reducible refine gate_callee (f := 110) rfl ?_); refine gL_ (some 19) Try.func110 #[.slice Ao16 t1293.length co16, .slice Ao17 t1302.length co17] rfl qa_ ?_; (with_reducible refine (spec_l02Then.calls k _ _ t1293 _ _ t1302 t1305 _ (cr_ HO1295) ((Kd.R_reads' HO1295.out).2.1) (cr_ HO1304) ((Kd.R_reads' HO1304.out).2.1) A6.out).mono ?_); rintro e w18 ⟨v1306, rfl, ho0, hb⟩; refine ⟨_, rfl, ?_⟩; have HO1307 := Aside0.mk (Kd.R_lower (Kd.R_new' (Kd.R_new' (Kd.R_new' (Kd.R_new' ho0 (Kd.R_lt (rr_ HO1295))) (Kd.R_lt (rr_ HO1298))) (Kd.R_lt (rr_ HO1301))) (Kd.R_lt (rr_ HO1304))) (below_size hB_)); replace HO1295 := Aside0.mk (Kd.R_elder' (rr_ HO1295) (Kd.R_base ho0) hb); replace HO1298 := Aside0.mk (Kd.R_elder' (rr_ HO1298) (Kd.R_base ho0) hb); replace HO1301 := Aside0.mk (Kd.R_elder' (rr_ HO1301) (Kd.R_base ho0) hb); replace HO1304 := Aside0.mk (Kd.R_elder' (rr_ HO1304) (Kd.R_base ho0) hb); replace BK1292 := bb_ BK1292 hb; replace HB := b1_ hb; clear hb ho0))
  go_ret
  exact ⟨_, qb_, (rw_ (Kd.R_mono HO1307.out (fun _ hk => trivial))), hB_⟩
end Go.Proofs.Ytoijcallajegfaa.A
end
section
namespace Go.Proofs.Ytoijcallajegfaa.A
open Go.RowKit Go.Proofs.YtoijcallajegfaaW.PrintWords Go.Proofs.YtoijcallajegfaaW.PrintLast Go.Proofs.YtoijcallajegfaaW.PrintMore
attribute [local go_sem] max2_int min2_int max_two min_two max_three min_three max_four min_four
set_option linter.unusedVariables false
set_option linter.unusedSimpArgs false
def spec_CornersOf.f (k : Nat) (l0_0 : List Int) (l0_1 : List Int) : Option ((List (List Int))) := (spec_SurfaceOk.f k l0_0 l0_1).bind fun t1309 => (if t1309 = true then ((spec_l04Around.f k l0_0 l0_1).bind fun t1310 => ((spec_CyclesOf.f k t1310).bind fun t1313 => (some t1313))) else (some ([] : List (List Int))))
theorem spec_CornersOf.mono : ∀ a0 a1 k, LeO (spec_CornersOf.f k a0 a1) (spec_CornersOf.f (k + 1) a0 a1) := by
  intro a0 a1 k
  unfold spec_CornersOf.f
  repeat' first|exact spec_CyclesOf.mono _ _|exact spec_SurfaceOk.mono _ _ _|exact spec_l04Around.mono _ _ _|exact lo_|refine LeO.ite ?_ ?_|refine LeO.bind ?_ (fun _ => ?_)
set_option maxHeartbeats 8000000 in
set_option maxRecDepth 100000 in
theorem spec_CornersOf.calls (k : Nat) (A0_0 : Option Addr) (c0_0 : Nat) (l0_0 : List Int) (A0_1 : Option Addr) (c0_1 : Nat) (l0_1 : List Int) (r : List (List Int)) (w : World) (hr0_0 : Kd.C (Kd.int .i64) w A0_0 l0_0.length l0_0) (hc0_0 : l0_0.length ≤ c0_0) (hr0_1 : Kd.C (Kd.int .i64) w A0_1 l0_1.length l0_1) (hc0_1 : l0_1.length ≤ c0_1) (h : spec_CornersOf.f k l0_0 l0_1 = some r) :
    Calls Try.prog 188 #[.agg #[.slice A0_0 l0_0.length c0_0, .slice A0_1 l0_1.length c0_1]] w fun e w' => ∃ v0_ : Value, e = .returned (v0_) ∧ Kd.S (Kd.slice 3 (Kd.int .i64)) 23 w' w.heap.size (fun _ => True) v0_ r ∧ Below w.heap.size w w' := by
  have hu33 := Try.underlying33
  have HR0_0 := Aside0.mk hr0_0
  have HC0_0 := Aside0.mk hc0_0
  clear hr0_0 hc0_0
  have HR0_1 := Aside0.mk hr0_1
  have HC0_1 := Aside0.mk hc0_1
  clear hr0_1 hc0_1
  have HB := Aside0.mk (Below.refl w.heap.size w)
  have H := h
  unfold spec_CornersOf.f at H
  clear h
  obtain ⟨t1309, A2, H⟩ := bi_ H
  by_cases c3 : t1309 = true
  · subst c3
    rw [if_pos rfl] at H
    obtain ⟨t1310, A4, H⟩ := bi_ H
    obtain ⟨t1313, A5, H⟩ := bi_ H
    obtain rfl := Option.some.inj H
    go_enter Try.func188, Try.ntmps188
    go_wp2_with (first | ((with_reducible refine gate_dst (N := 1) rfl ?_); refine bx_ 1 #[.slice A0_0 l0_0.length c0_0, .slice A0_1 l0_1.length c0_1] 33 ?_; intro gb1308 hg w6 hbox hb; have BK1308 := Aside0.mk hbox; have GW1308 := gw_ w hg; have GE1308 := GW1308; replace HB := b1_ hb; clear hb hbox hg; obtain ⟨hcz7_0, hcz7_1, hfz7_0, hfz7_1⟩ := c2_ BK1308) | ((with_reducible refine gate_callee (f := 85) rfl ?_); refine gL_ (some 4) Try.func85 #[.agg #[.slice A0_0 l0_0.length c0_0, .slice A0_1 l0_1.length c0_1]] rfl qa_ ?_; (with_reducible refine (spec_SurfaceOk.calls k _ _ l0_0 _ _ l0_1 true _ (cb_ HR0_0) HC0_0.out (cb_ HR0_1) HC0_1.out A2.out).mono ?_); rintro e w8 ⟨rfl, hb⟩; refine ⟨_, rfl, ?_⟩; replace BK1308 := bb_ BK1308 hb; replace HB := b1_ hb; clear hb; obtain ⟨hcz9_0, hcz9_1, hfz9_0, hfz9_1⟩ := c2_ BK1308) | ((with_reducible refine gate_callee (f := 196) rfl ?_); refine gL_ (some 7) Try.func196 #[.agg #[.slice A0_0 l0_0.length c0_0, .slice A0_1 l0_1.length c0_1]] rfl qa_ ?_; (with_reducible refine (spec_l04Around.calls k _ _ l0_0 _ _ l0_1 t1310 _ (cb_ HR0_0) HC0_0.out (cb_ HR0_1) HC0_1.out A4.out).mono ?_); rintro e w10 ⟨v1311, rfl, ho0, hb⟩; refine ⟨_, rfl, ?_⟩; have HO1312 := rl_ w ho0; replace BK1308 := bb_ BK1308 hb; replace HB := b1_ hb; clear hb ho0; obtain ⟨Ao11, co11, eo11⟩ := Kd.R_slice HO1312.out; subst eo11) | ((with_reducible refine gate_callee (f := 195) rfl ?_); refine gL_ (some 8) Try.func195 #[.slice Ao11 t1310.length co11] rfl qa_ ?_; (with_reducible refine (spec_CyclesOf.calls k _ _ t1310 t1313 _ (cr_ HO1312) ((Kd.R_reads' HO1312.out).2.1) A5.out).mono ?_); rintro e w12 ⟨v1314, rfl, ho0, hb⟩; refine ⟨_, rfl, ?_⟩; have HO1315 := Aside0.mk (Kd.S_lower (Kd.S_new' ho0 (Kd.R_lt (rr_ HO1312))) (below_size hB_)); replace HO1312 := rb_ HO1312 hb; replace BK1308 := bb_ BK1308 hb; replace HB := b1_ hb; clear hb ho0))
    go_ret
    exact ⟨_, qb_, (sw_ (Kd.S_mono HO1315.out (fun _ hk => trivial))), hB_⟩
  · replace c3 := Bool.eq_false_iff.mpr c3
    subst c3
    have H1 : (some ([] : List (List Int))) = some r := by rw [if_neg (show ¬ (false = true) by decide)] at H; exact H
    clear H
    have H := H1
    clear H1
    obtain rfl := Option.some.inj H
    go_enter Try.func188, Try.ntmps188
    go_wp2_with (first | ((with_reducible refine gate_dst (N := 1) rfl ?_); refine bx_ 1 #[.slice A0_0 l0_0.length c0_0, .slice A0_1 l0_1.length c0_1] 33 ?_; intro gb1308 hg w13 hbox hb; have BK1308 := Aside0.mk hbox; have GW1308 := gw_ w hg; have GE1308 := GW1308; replace HB := b1_ hb; clear hb hbox hg; obtain ⟨hcz14_0, hcz14_1, hfz14_0, hfz14_1⟩ := c2_ BK1308) | ((with_reducible refine gate_callee (f := 85) rfl ?_); refine gL_ (some 4) Try.func85 #[.agg #[.slice A0_0 l0_0.length c0_0, .slice A0_1 l0_1.length c0_1]] rfl qa_ ?_; (with_reducible refine (spec_SurfaceOk.calls k _ _ l0_0 _ _ l0_1 false _ (cb_ HR0_0) HC0_0.out (cb_ HR0_1) HC0_1.out A2.out).mono ?_); rintro e w15 ⟨rfl, hb⟩; refine ⟨_, rfl, ?_⟩; replace BK1308 := bb_ BK1308 hb; replace HB := b1_ hb; clear hb))
    go_ret
    exact ⟨_, qb_, by first | exact Kd.S_nil _ _ _ _ _ | exact Kd.N_nil _ _ _ _ _ | exact Kd.V_nil _ _ _ _ _ | exact Kd.Q_nil _ _ _ _ _ | exact Kd.R_nil _ _ _ _ _, hB_⟩
end Go.Proofs.Ytoijcallajegfaa.A
end
section
namespace Go.Proofs.Ytoijcallajegfaa.A
open Go.RowKit Go.Proofs.YtoijcallajegfaaW.PrintWords Go.Proofs.YtoijcallajegfaaW.PrintLast Go.Proofs.YtoijcallajegfaaW.PrintMore
attribute [local go_sem] max2_int min2_int max_two min_two max_three min_three max_four min_four
set_option linter.unusedVariables false
set_option linter.unusedSimpArgs false
def spec_AnglesOf.f (k : Nat) (l0_0 : List Int) (l0_1 : List Int) : Option (List Int) := (spec_CornersOf.f k l0_0 l0_1).bind fun t1317 => ((spec_l04Lengths.f k t1317).bind fun t1320 => (some t1320))
theorem spec_AnglesOf.mono : ∀ a0 a1 k, LeO (spec_AnglesOf.f k a0 a1) (spec_AnglesOf.f (k + 1) a0 a1) := by
  intro a0 a1 k
  unfold spec_AnglesOf.f
  repeat' first|exact spec_CornersOf.mono _ _ _|exact spec_l04Lengths.mono _ _|exact lo_|refine LeO.ite ?_ ?_|refine LeO.bind ?_ (fun _ => ?_)
set_option maxHeartbeats 8000000 in
set_option maxRecDepth 100000 in
theorem spec_AnglesOf.calls (k : Nat) (A0_0 : Option Addr) (c0_0 : Nat) (l0_0 : List Int) (A0_1 : Option Addr) (c0_1 : Nat) (l0_1 : List Int) (r : List Int) (w : World) (hr0_0 : Kd.C (Kd.int .i64) w A0_0 l0_0.length l0_0) (hc0_0 : l0_0.length ≤ c0_0) (hr0_1 : Kd.C (Kd.int .i64) w A0_1 l0_1.length l0_1) (hc0_1 : l0_1.length ≤ c0_1) (h : spec_AnglesOf.f k l0_0 l0_1 = some r) :
    Calls Try.prog 166 #[.agg #[.slice A0_0 l0_0.length c0_0, .slice A0_1 l0_1.length c0_1]] w fun e w' => ∃ v0_ : Value, e = .returned (v0_) ∧ Kd.R (Kd.int .i64) 3 w' w.heap.size (fun _ => True) v0_ r ∧ Below w.heap.size w w' := by
  have hu33 := Try.underlying33
  have HR0_0 := Aside0.mk hr0_0
  have HC0_0 := Aside0.mk hc0_0
  clear hr0_0 hc0_0
  have HR0_1 := Aside0.mk hr0_1
  have HC0_1 := Aside0.mk hc0_1
  clear hr0_1 hc0_1
  have HB := Aside0.mk (Below.refl w.heap.size w)
  have H := h
  unfold spec_AnglesOf.f at H
  clear h
  obtain ⟨t1317, A2, H⟩ := bi_ H
  obtain ⟨t1320, A3, H⟩ := bi_ H
  obtain rfl := Option.some.inj H
  go_enter Try.func166, Try.ntmps166
  go_wp2_with (first | ((with_reducible refine gate_dst (N := 1) rfl ?_); refine bx_ 1 #[.slice A0_0 l0_0.length c0_0, .slice A0_1 l0_1.length c0_1] 33 ?_; intro gb1316 hg w4 hbox hb; have BK1316 := Aside0.mk hbox; have GW1316 := gw_ w hg; have GE1316 := GW1316; replace HB := b1_ hb; clear hb hbox hg; obtain ⟨hcz5_0, hcz5_1, hfz5_0, hfz5_1⟩ := c2_ BK1316) | ((with_reducible refine gate_callee (f := 188) rfl ?_); refine gL_ (some 4) Try.func188 #[.agg #[.slice A0_0 l0_0.length c0_0, .slice A0_1 l0_1.length c0_1]] rfl qa_ ?_; (with_reducible refine (spec_CornersOf.calls k _ _ l0_0 _ _ l0_1 t1317 _ (cb_ HR0_0) HC0_0.out (cb_ HR0_1) HC0_1.out A2.out).mono ?_); rintro e w6 ⟨v1318, rfl, ho0, hb⟩; refine ⟨_, rfl, ?_⟩; have HO1319 := Aside0.mk (Kd.S_lower ho0 (below_size hB_)); replace BK1316 := bb_ BK1316 hb; replace HB := b1_ hb; clear hb ho0; obtain ⟨Ao7, co7, eo7⟩ := Kd.S_slice HO1319.out; subst eo7) | ((with_reducible refine gate_callee (f := 187) rfl ?_); refine gL_ (some 5) Try.func187 #[.slice Ao7 t1317.length co7] rfl qa_ ?_; (with_reducible refine (spec_l04Lengths.calls k _ _ t1317 t1320 _ (cw_ ((Kd.S_reads' HO1319.out).2.2)) ((Kd.S_reads' HO1319.out).2.1) A3.out).mono ?_); rintro e w8 ⟨v1321, rfl, ho0, hb⟩; refine ⟨_, rfl, ?_⟩; replace HO1319 := Aside0.mk (Kd.S_elder' (ss_ HO1319) (Kd.R_base ho0) hb); have HO1322 := rl_ w ho0; replace BK1316 := bb_ BK1316 hb; replace HB := b1_ hb; clear hb ho0))
  go_ret
  exact ⟨_, qb_, (rr_ HO1322), hB_⟩
end Go.Proofs.Ytoijcallajegfaa.A
end
