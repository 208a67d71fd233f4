/- Lemmas for the row FnClasses: the program's functions told as plain functions, and plain mathematics. No conditions. -/
import Derived.MapKept
import Derived.Test.YtoijcallajegfaaQFnClasses2
section
namespace Go.Proofs.Ytoijcallajegfaa.A
open Go.RowKit Go.Proofs.YtoijcallajegfaaW.PrintWords Go.Proofs.YtoijcallajegfaaW.PrintLast Go.Proofs.YtoijcallajegfaaW.PrintMore
attribute [local go_sem] max2_int min2_int max_two min_two max_three min_three max_four min_four
set_option linter.unusedVariables false
set_option linter.unusedSimpArgs false
mutual
def impl_SurfacesWith.j0 : Nat → Int → Bool → Option ((List (S33)))
  | 0, _, _ => none
  | k + 1, x0, x15 => if x15 = true then (some ([] : List (S33))) else ((impl_allPerms.f k x0).bind fun t268 => (impl_SurfacesWith.l0 k x0 (([] : List (S33))) t268 (t268.length : Int) 0))
def impl_SurfacesWith.l0 : Nat → Int → List (S33) → List (List Int) → Int → Int → Option ((List (S33)))
  | 0, _, _, _, _, _ => none
  | k + 1, x0, x3, x18, x19, x20 => if x20 < x19 then (if 0 ≤ x20 then (if x20 < (x18.length : Int) then ((impl_allPerms.f k x0).bind fun t275 => (impl_SurfacesWith.l1 k x0 x3 (rd_L5 x18 x20) x18 x19 x20 t275 (t275.length : Int) 0)) else (none)) else (none)) else ((impl_sortSurfaces.f x3).bind fun t271 => (some t271))
def impl_SurfacesWith.l1 : Nat → Int → List (S33) → List Int → List (List Int) → Int → Int → List (List Int) → Int → Int → Option ((List (S33)))
  | 0, _, _, _, _, _, _, _, _, _ => none
  | k + 1, x0, x3, x5, x18, x19, x20, x25, x26, x27 => if x27 < x26 then (if 0 ≤ x27 then (if x27 < (x25.length : Int) then ((impl_CanonOf.f k x5 (rd_L5 x25 x27)).bind fun bt279 => (if bt279.2.2 = true then (if x3.length < 2932031007402 then (impl_SurfacesWith.l1 k x0 (x3 ++ [(⟨bt279.1, bt279.2.1⟩ : S33)]) x5 x18 x19 x20 x25 x26 (wrap64 (x27 + 1))) else (none)) else (impl_SurfacesWith.l1 k x0 x3 x5 x18 x19 x20 x25 x26 (wrap64 (x27 + 1))))) else (none)) else (none)) else (impl_SurfacesWith.l0 k x0 x3 x18 x19 (wrap64 (x20 + 1)))
end
def impl_SurfacesWith.f (k : Nat) (a0 : Int) : Option ((List (S33))) := if a0 < 1 then (impl_SurfacesWith.j0 k a0 true) else (impl_SurfacesWith.j0 k a0 (decide (a0 > 4)))
theorem impl_SurfacesWith.mono_l : ∀ k, (∀ y0 y1, LeO (impl_SurfacesWith.j0 k y0 y1) (impl_SurfacesWith.j0 (k + 1) y0 y1)) ∧ (∀ y0 y1 y2 y3 y4, LeO (impl_SurfacesWith.l0 k y0 y1 y2 y3 y4) (impl_SurfacesWith.l0 (k + 1) y0 y1 y2 y3 y4)) ∧ (∀ y0 y1 y2 y3 y4 y5 y6 y7 y8, LeO (impl_SurfacesWith.l1 k y0 y1 y2 y3 y4 y5 y6 y7 y8) (impl_SurfacesWith.l1 (k + 1) y0 y1 y2 y3 y4 y5 y6 y7 y8))
  | 0 => ⟨fun _ _ r h => by simp [impl_SurfacesWith.j0] at h, fun _ _ _ _ _ r h => by simp [impl_SurfacesWith.l0] at h, fun _ _ _ _ _ _ _ _ _ r h => by simp [impl_SurfacesWith.l1] at h⟩
  | k + 1 => by
    obtain ⟨ih0, ih1, ih2⟩ := impl_SurfacesWith.mono_l k
    refine ⟨?_, ?_, ?_⟩
    · intro y0 y1
      unfold impl_SurfacesWith.j0
      repeat' first|exact ih0 _ _|exact ih1 _ _ _ _ _|exact ih2 _ _ _ _ _ _ _ _ _|exact impl_CanonOf.mono _ _ _|exact impl_allPerms.mono _ _|exact lo_|refine LeO.ite ?_ ?_|refine LeO.bind ?_ (fun _ => ?_)
    · intro y0 y1 y2 y3 y4
      unfold impl_SurfacesWith.l0
      repeat' first|exact ih0 _ _|exact ih1 _ _ _ _ _|exact ih2 _ _ _ _ _ _ _ _ _|exact impl_CanonOf.mono _ _ _|exact impl_allPerms.mono _ _|exact lo_|refine LeO.ite ?_ ?_|refine LeO.bind ?_ (fun _ => ?_)
    · intro y0 y1 y2 y3 y4 y5 y6 y7 y8
      unfold impl_SurfacesWith.l1
      repeat' first|exact ih0 _ _|exact ih1 _ _ _ _ _|exact ih2 _ _ _ _ _ _ _ _ _|exact impl_CanonOf.mono _ _ _|exact impl_allPerms.mono _ _|exact lo_|refine LeO.ite ?_ ?_|refine LeO.bind ?_ (fun _ => ?_)
theorem impl_SurfacesWith.mono : ∀ a0 k, LeO (impl_SurfacesWith.f k a0) (impl_SurfacesWith.f (k + 1) a0) := by
  intro a0 k
  obtain ⟨ih0, ih1, ih2⟩ := impl_SurfacesWith.mono_l k
  unfold impl_SurfacesWith.f
  repeat' first|exact ih0 _ _|exact ih1 _ _ _ _ _|exact ih2 _ _ _ _ _ _ _ _ _|exact impl_CanonOf.mono _ _ _|exact impl_allPerms.mono _ _|exact lo_|refine LeO.ite ?_ ?_|refine LeO.bind ?_ (fun _ => ?_)
set_option maxHeartbeats 8000000 in
set_option maxRecDepth 100000 in
theorem impl_SurfacesWith.calls (k : Nat) (a0 : Int) (r : List (S33)) (w : World) (h : impl_SurfacesWith.f k a0 = some r) :
    Calls Try.prog 12 #[.int .i64 a0] w fun e w' => ∃ v0_ : Value, e = .returned (v0_) ∧ Kd.S k33 33 w' w.heap.size (fun _ => True) v0_ r ∧ Below w.heap.size w w' := by
  have hu33 := Try.underlying33
  have HB := Aside0.mk (Below.refl w.heap.size w)
  have H := h
  unfold impl_SurfacesWith.f at H
  clear h
  have HC2 := Aside0.mk H
  clear H
  go_enter Try.func12, Try.ntmps12
  go_upto_region 1 with (fail)
  go_cut [15] (fun v15 wc => ∃ (kq : Nat) (x15_1 : Bool), v15 = .bool x15_1 ∧ Aside0 (impl_SurfacesWith.j0 kq a0 x15_1 = some r) ∧ Aside0 (kq ≤ k) ∧ Aside0 (Below w.heap.size w wc))
  case first =>
    have H := HC2.out
    clear HC2
    by_cases c3 : a0 < 1
    · rw [if_pos c3] at H
      have c3b0 := decide_eq_true c3
      clear c3
      (first | rw [c3b0] | (simp only [i64_w, i32_w]; rw [c3b0]) | skip)
      have H' := Aside0.mk H
      clear H
      go_wp2
      go_meet
      case rel => exact ⟨_, (true), qc_, H', ⟨qd_⟩, ⟨hB_⟩⟩
    · rw [if_neg c3] at H
      have c3b0 := decide_eq_false c3
      clear c3
      (first | rw [c3b0] | (simp only [i64_w, i32_w]; rw [c3b0]) | skip)
      have H' := Aside0.mk H
      clear H
      go_wp2
      go_meet
      case rel => exact ⟨_, (decide (a0 > 4)), qc_, H', ⟨qd_⟩, ⟨hB_⟩⟩
  case rest =>
    clear HC2
    obtain ⟨kq, x15_1, rfl, HA, HJ1, HB⟩ := hcut
    cases kq with
    | zero => exact absurd HA.out (by simp [impl_SurfacesWith.j0])
    | succ kj1 =>
      have H := HA.out
      clear HA
      simp only [impl_SurfacesWith.j0] at H
      by_cases c4 : x15_1 = true
      · subst c4
        rw [if_pos rfl] at H
        obtain rfl := Option.some.inj H
        go_wp2
        go_ret
        exact ⟨_, qb_, by first | exact Kd.S_nil _ _ _ _ _ | exact Kd.N_nil _ _ _ _ _ | exact Kd.V_nil _ _ _ _ _ | exact Kd.Q_nil _ _ _ _ _ | exact Kd.R_nil _ _ _ _ _, hB_⟩
      · replace c4 := Bool.eq_false_iff.mpr c4
        subst c4
        have H1 : ((impl_allPerms.f kj1 a0).bind fun t268 => (impl_SurfacesWith.l0 kj1 a0 (([] : List (S33))) t268 (t268.length : Int) 0)) = some r := by rw [if_neg (show ¬ (false = true) by decide)] at H; exact H
        clear H
        have H := H1
        clear H1
        obtain ⟨y265, hy265⟩ : ∃ y_ : List (S33), y_ = (([] : List (S33))) := ⟨_, rfl⟩
        replace H : ((impl_allPerms.f kj1 a0).bind fun t268 => (impl_SurfacesWith.l0 kj1 a0 y265 t268 (t268.length : Int) 0)) = some r := by first | (rw [hy265]; exact H) | exact H
        have Ny265 := Aside0.mk hy265
        clear hy265
        obtain ⟨t268, A5, H⟩ := bi_ H
        have H' := Aside0.mk H
        clear H
        go_wp2_with (first | ((with_reducible refine gate_dst (N := 16) rfl ?_); refine Kd.S_lit k33 _ 33 ?hg (N := 16) ?hd (xs := ([] : List (S33))) (inner := []) (ok := (fun k_ => (w.heap.size ≤ k_))) (okp := (fun k_ => (w.heap.size ≤ k_))) ?hr ?hp (fun _ hk => hk) ((show ∀ k_, wc.heap.size ≤ k_ → (fun k_ => (w.heap.size ≤ k_)) k_ from fun k_ hk => (Nat.le_trans (below_size hB_) hk)) _ (Nat.le_refl _)) (Below.refl _ _) (Nat.le_refl _) (by simp) ?_; (case hd => rfl); (case hg => rfl); (case hr => first | (go_simp; done) | (go_simp; rfl)); (case hp => exact (Reps.none _ _)); intro v266 w6 ho7 hb hg_ hnew_; clear hg_ hnew_; (first | rw [← Ny265.out] at ho7 | (simp only [Int.reduceToNat] at ho7; rw [← Ny265.out] at ho7)); have HO267 := Aside0.mk (Kd.S_lower ho7 (below_size hB_)); replace HB := b1_ hb; clear hb ho7) | ((with_reducible refine gate_callee (f := 50) rfl ?_); refine gL_ (some 18) Try.func50 #[.int .i64 a0] rfl qa_ ?_; (with_reducible refine (impl_allPerms.calls kj1 a0 t268 _ A5.out).mono ?_); rintro e w8 ⟨v269, rfl, ho0, hb⟩; refine ⟨_, rfl, ?_⟩; have HO270 := Aside0.mk (Kd.N_lower (Kd.N_mono (ok' := fun k_ => (w.heap.size ≤ k_) ∧ some k_ ≠ (v266 : Value).ownBlock) ho0 (fun k_ hk_ => ⟨(Nat.le_trans (below_size hB_) hk_), (Kd.fresh' (Kd.S_lt (ss_ HO267)) k_ hk_)⟩)) (below_size hB_)); replace HO267 := Aside0.mk (Kd.S_elder' (ss_ HO267) (Kd.N_base ho0) hb); replace HB := b1_ hb; clear hb ho0; obtain ⟨Ao9, co9, eo9⟩ := Kd.N_slice HO270.out; subst eo9))
        go_loopg [3, 20] kj1 (fun kq v3 v20 w' => ∃ (x3_2 : List (S33)) (x20_2 : Int), v20 = .int .i64 x20_2 ∧ Aside0 (impl_SurfacesWith.l0 kq a0 x3_2 t268 (t268.length : Int) x20_2 = some r) ∧ Aside0 (kq ≤ kj1) ∧ Aside0 (Kd.S k33 33 w' w.heap.size (fun k_ => (w.heap.size ≤ k_) ∧ some k_ ≠ ((.slice Ao9 t268.length co9) : Value).ownBlock) v3 x3_2) ∧ Aside0 (Kd.N (Kd.slice 3 (Kd.int .i64)) 23 w' w.heap.size (fun k_ => (w.heap.size ≤ k_) ∧ some k_ ≠ (v3 : Value).ownBlock) (.slice Ao9 t268.length co9) t268) ∧ Aside0 (Below w.heap.size w w'))
        case atStart => exact ⟨(y265), (0), qc_, H', ⟨Nat.le_refl _⟩, ⟨(ss_ HO267)⟩, ⟨by (with_reducible repeat (first | apply Kd.N_alloc | apply Kd.N_drewN | apply Kd.N_drew)); exact HO270.out⟩, ⟨hB_⟩⟩
        case round =>
          clear H'
          obtain ⟨x3_2, x20_2, rfl, HA, HK2, HO_3, HO_18, HB⟩ := hrel
          cases gk with
          | zero => exact absurd HA.out (by simp [impl_SurfacesWith.l0])
          | succ k2 =>
            have H := HA.out
            clear HA
            simp only [impl_SurfacesWith.l0] at H
            by_cases c10 : x20_2 < (t268.length : Int)
            · rw [if_pos c10] at H
              have c10b0 := decide_eq_true c10
              clear c10
              have c11 := cp_ H
              replace H := ca_ H
              have c11b0 := decide_eq_true c11
              clear c11
              have c12 := cp_ H
              replace H := ca_ H
              have c12b0 := decide_eq_true c12
              clear c12
              obtain ⟨t275, A13, H⟩ := bi_ H
              have H' := Aside0.mk H
              clear H
              have p274 : 0 ≤ (x20_2 : Int) := of_decide_eq_true qe_
              have q274 : x20_2 < (t268.length : Int) := of_decide_eq_true qe_
              obtain ⟨ad274, A274_0, c274_0, e274, hx274_0, hl274_0, hi274_0⟩ := at_L5 (Kd.N_reads' HO_18.out).2.2 x20_2 p274 q274
              cases e274
              obtain ⟨ce274, hce274, hMe274, hcc274⟩ := Kd.N_get HO_18.out [] x20_2 p274 (by first | exact q274 | exact of_decide_eq_true qe_ | (have e_ := (Kd.N_reads' HO_18.out).1; omega))
              obtain ⟨ua274_0, uc274_0, rfl, ul274_0, ge274_0⟩ := Kd.FK_slice_open hMe274
              have hv274_0 := hcc274 0 _ rfl
              rw [Nat.add_zero, show ((Kd.slice 3 (Kd.int .i64))).sz = 1 from rfl, Nat.mul_one] at hv274_0
              replace hv274_0 := Option.some.inj (hv274_0.symm.trans hx274_0)
              injection hv274_0 with hva_ hvn_ hvc_
              rw [hva_] at ge274_0
              rw [hvc_] at ul274_0
              have HL274_0 := Aside0.mk (show Kd.V (Kd.int .i64) 3 _ w.heap.size _ _ (rd_L5 t268 x20_2) from Kd.V_mk ul274_0 ge274_0)
              clear hva_ hvn_ hvc_ ge274_0 ul274_0
              clear hcc274 hce274
              have HR274_0 := Aside0.mk hi274_0
              have HC274_0 := Aside0.mk hl274_0
              clear hi274_0 hl274_0
              replace p274 := eq_true p274
              replace q274 := eq_true q274
              go_wp2_with (first | ((with_reducible refine gate_callee (f := 50) rfl ?_); refine gL_ (some 25) Try.func50 #[.int .i64 a0] rfl qa_ ?_; (with_reducible refine (impl_allPerms.calls k2 a0 t275 _ A13.out).mono ?_); rintro e w14 ⟨v276, rfl, ho0, hb⟩; refine ⟨_, rfl, ?_⟩; replace HL274_0 := Aside0.mk (Kd.V_elder' (by (with_reducible repeat (first | apply Kd.V_alloc | apply Kd.V_drewN | apply Kd.V_drew)); exact HL274_0.out) (Kd.N_base ho0) hb); have HO277 := Aside0.mk (Kd.N_lower (Kd.N_mono (ok' := fun k_ => (w.heap.size ≤ k_) ∧ some k_ ≠ (u3 : Value).ownBlock ∧ some k_ ≠ (.slice (some ad274) t268.length co9 : Value).ownBlock) ho0 (fun k_ hk_ => ⟨(Nat.le_trans (below_size hB_) hk_), (Kd.fresh' (Kd.S_lt (ss_ HO_3)) k_ hk_), (Kd.fresh' (Kd.N_lt (by (with_reducible repeat (first | apply Kd.N_alloc | apply Kd.N_drewN | apply Kd.N_drew)); exact HO_18.out)) k_ hk_)⟩)) (below_size hB_)); replace HO_3 := Aside0.mk (Kd.S_elder' (ss_ HO_3) (Kd.N_base ho0) hb); replace HO_18 := Aside0.mk (Kd.N_elder' (by (with_reducible repeat (first | apply Kd.N_alloc | apply Kd.N_drewN | apply Kd.N_drew)); exact HO_18.out) (Kd.N_base ho0) hb); replace HR274_0 := Aside0.mk (Kd.C_below (by repeat (first | (with_reducible exact HR274_0.out) | (with_reducible refine Kd.C_alloc ?_ _) | (with_reducible refine Kd.C_drewN ?_ _) | (with_reducible refine Kd.C_drew ?_) | exact HR274_0.out)) hb); replace HB := b1_ hb; clear hb ho0; obtain ⟨Ao15, co15, eo15⟩ := Kd.N_slice HO277.out; subst eo15))
              go_loopg [3, 27] k2 (fun kq v3 v27 w' => ∃ (x3_3 : List (S33)) (x27_3 : Int), v27 = .int .i64 x27_3 ∧ Aside0 (impl_SurfacesWith.l1 kq a0 x3_3 (rd_L5 t268 x20_2) t268 (t268.length : Int) x20_2 t275 (t275.length : Int) x27_3 = some r) ∧ Aside0 (kq ≤ k2) ∧ Aside0 (Kd.S k33 33 w' w.heap.size (fun k_ => (w.heap.size ≤ k_) ∧ some k_ ≠ ((.slice (some ad274) t268.length co9) : Value).ownBlock ∧ some k_ ≠ ((.slice Ao15 t275.length co15) : Value).ownBlock) v3 x3_3) ∧ Aside0 (Kd.V (Kd.int .i64) 3 w' w.heap.size (fun k_ => (w.heap.size ≤ k_) ∧ some k_ ≠ (v3 : Value).ownBlock ∧ some k_ ≠ ((.slice (some ad274) t268.length co9) : Value).ownBlock ∧ some k_ ≠ ((.slice Ao15 t275.length co15) : Value).ownBlock) (.slice A274_0 (rd_L5 t268 x20_2).length c274_0) (rd_L5 t268 x20_2)) ∧ Aside0 (Kd.N (Kd.slice 3 (Kd.int .i64)) 23 w' w.heap.size (fun k_ => (w.heap.size ≤ k_) ∧ some k_ ≠ (v3 : Value).ownBlock ∧ some k_ ≠ ((.slice Ao15 t275.length co15) : Value).ownBlock) (.slice (some ad274) t268.length co9) t268) ∧ Aside0 (Kd.N (Kd.slice 3 (Kd.int .i64)) 23 w' w.heap.size (fun k_ => (w.heap.size ≤ k_) ∧ some k_ ≠ (v3 : Value).ownBlock ∧ some k_ ≠ ((.slice (some ad274) t268.length co9) : Value).ownBlock) (.slice Ao15 t275.length co15) t275) ∧ Aside0 (Below w.heap.size w w'))
              case atStart => exact ⟨(x3_2), (0), qc_, H', ⟨Nat.le_refl _⟩, ⟨(sw_ (Kd.S_mono HO_3.out (fun _ hk => ⟨hk.1.1, ⟨hk.1.2, hk.2⟩⟩)))⟩, ⟨by (with_reducible repeat (first | apply Kd.V_alloc | apply Kd.V_drewN | apply Kd.V_drew)); exact Kd.V_mono HL274_0.out (fun _ hk => ⟨hk.1.1.1, ⟨hk.1.1.2, ⟨hk.1.2, hk.2⟩⟩⟩)⟩, ⟨by (with_reducible repeat (first | apply Kd.N_alloc | apply Kd.N_drewN | apply Kd.N_drew)); exact Kd.N_mono HO_18.out (fun _ hk => ⟨hk.1.1, ⟨hk.1.2, hk.2⟩⟩)⟩, ⟨by (with_reducible repeat (first | apply Kd.N_alloc | apply Kd.N_drewN | apply Kd.N_drew)); exact HO277.out⟩, ⟨hB_⟩⟩
              case round =>
                clear H'
                obtain ⟨x3_3, x27_3, rfl, HA, HK3, HO_3, HO_5, HO_18, HO_25, HB⟩ := hrel
                cases gk with
                | zero => exact absurd HA.out (by simp [impl_SurfacesWith.l1])
                | succ k3 =>
                  have H := HA.out
                  clear HA
                  simp only [impl_SurfacesWith.l1] at H
                  by_cases c16 : x27_3 < (t275.length : Int)
                  · rw [if_pos c16] at H
                    have c16b0 := decide_eq_true c16
                    clear c16
                    have c17 := cp_ H
                    replace H := ca_ H
                    have c17b0 := decide_eq_true c17
                    clear c17
                    have c18 := cp_ H
                    replace H := ca_ H
                    have c18b0 := decide_eq_true c18
                    clear c18
                    obtain ⟨⟨t279, t282, t285⟩, A19, H⟩ := bi_ H
                    try dsimp only at H
                    by_cases c20 : t285 = true
                    · subst c20
                      rw [if_pos rfl] at H
                      have c21 := cp_ H
                      replace H := ca_ H
                      have LMc21 := Aside0.mk c21
                      clear c21
                      obtain ⟨y287, hy287⟩ : ∃ y_ : List (S33), y_ = (x3_3 ++ [(⟨t279, t282⟩ : S33)]) := ⟨_, rfl⟩
                      replace H : (impl_SurfacesWith.l1 k3 a0 y287 (rd_L5 t268 x20_2) t268 (t268.length : Int) x20_2 t275 (t275.length : Int) (wrap64 (x27_3 + 1))) = some r := by first | (rw [hy287]; exact H) | exact H
                      have Ny287 := Aside0.mk hy287
                      clear hy287
                      have H' := Aside0.mk H
                      clear H
                      have p278 : 0 ≤ (x27_3 : Int) := of_decide_eq_true qe_
                      have q278 : x27_3 < (t275.length : Int) := of_decide_eq_true qe_
                      obtain ⟨ad278, A278_0, c278_0, e278, hx278_0, hl278_0, hi278_0⟩ := at_L5 (Kd.N_reads' HO_25.out).2.2 x27_3 p278 q278
                      cases e278
                      obtain ⟨ce278, hce278, hMe278, hcc278⟩ := Kd.N_get HO_25.out [] x27_3 p278 (by first | exact q278 | exact of_decide_eq_true qe_ | (have e_ := (Kd.N_reads' HO_25.out).1; omega))
                      obtain ⟨ua278_0, uc278_0, rfl, ul278_0, ge278_0⟩ := Kd.FK_slice_open hMe278
                      have hv278_0 := hcc278 0 _ rfl
                      rw [Nat.add_zero, show ((Kd.slice 3 (Kd.int .i64))).sz = 1 from rfl, Nat.mul_one] at hv278_0
                      replace hv278_0 := Option.some.inj (hv278_0.symm.trans hx278_0)
                      injection hv278_0 with hva_ hvn_ hvc_
                      rw [hva_] at ge278_0
                      rw [hvc_] at ul278_0
                      have HL278_0 := Aside0.mk (show Kd.V (Kd.int .i64) 3 _ w.heap.size _ _ (rd_L5 t275 x27_3) from Kd.V_mk ul278_0 ge278_0)
                      clear hva_ hvn_ hvc_ ge278_0 ul278_0
                      clear hcc278 hce278
                      have HR278_0 := Aside0.mk hi278_0
                      have HC278_0 := Aside0.mk hl278_0
                      clear hi278_0 hl278_0
                      replace p278 := eq_true p278
                      replace q278 := eq_true q278
                      go_wp2_with (first | ((with_reducible refine gate_callee (f := 17) rfl ?_); refine gL_ (some 35) Try.func17 #[.agg #[.slice A274_0 (rd_L5 t268 x20_2).length c274_0, .slice A278_0 (rd_L5 t275 x27_3).length c278_0]] rfl qa_ ?_; (with_reducible refine (impl_CanonOf.calls k3 _ _ (rd_L5 t268 x20_2) _ _ (rd_L5 t275 x27_3) t279 t282 true _ ?side1 ?side2 ?side3 ?side4 A19.out).mono ?_); (case side1 => exact cw_ ((Kd.V_reads' HO_5.out).2.2)); (case side2 => exact (Kd.V_reads' HO_5.out).2.1); (case side3 => repeat (first | exact (by repeat (first | (with_reducible exact HR278_0.out) | (with_reducible refine Kd.C_alloc ?_ _) | (with_reducible refine Kd.C_drewN ?_ _) | (with_reducible refine Kd.C_drew ?_) | exact HR278_0.out)) | (with_reducible refine Kd.C_alloc ?_ _) | (with_reducible refine Kd.C_drewN ?_ _) | (with_reducible refine Kd.C_drew ?_))); (case side4 => exact HC278_0.out); rintro e w22 ⟨v280, v283, rfl, ho0, ho1, hb⟩; refine ⟨_, rfl, ?_⟩; replace HO_3 := Aside0.mk (Kd.S_mono (Kd.S_told (Kd.S_told (Kd.S_old (ss_ HO_3) hb) (Kd.R_base ho0)) (Kd.R_base ho1)) (fun _ h_ => h_.1)); replace HO_5 := Aside0.mk (Kd.V_mono (Kd.V_told (Kd.V_told (Kd.V_old (by (with_reducible repeat (first | apply Kd.V_alloc | apply Kd.V_drewN | apply Kd.V_drew)); exact HO_5.out) hb) (Kd.R_base ho0)) (Kd.R_base ho1)) (fun _ h_ => h_.1)); replace HO_18 := Aside0.mk (Kd.N_mono (Kd.N_told (Kd.N_told (Kd.N_old (by (with_reducible repeat (first | apply Kd.N_alloc | apply Kd.N_drewN | apply Kd.N_drew)); exact HO_18.out) hb) (Kd.R_base ho0)) (Kd.R_base ho1)) (fun _ h_ => h_.1)); replace HO_25 := Aside0.mk (Kd.N_mono (Kd.N_told (Kd.N_told (Kd.N_old (by (with_reducible repeat (first | apply Kd.N_alloc | apply Kd.N_drewN | apply Kd.N_drew)); exact HO_25.out) hb) (Kd.R_base ho0)) (Kd.R_base ho1)) (fun _ h_ => h_.1)); replace HL278_0 := Aside0.mk (Kd.V_mono (Kd.V_told (Kd.V_told (Kd.V_old (by (with_reducible repeat (first | apply Kd.V_alloc | apply Kd.V_drewN | apply Kd.V_drew)); exact HL278_0.out) hb) (Kd.R_base ho0)) (Kd.R_base ho1)) (fun _ h_ => h_.1)); have HO281 := Aside0.mk (Kd.R_lower (Kd.R_newM (M := fun k_ => (w.heap.size ≤ k_)) ho0 (below_size hB_) (fun k_ h_ => h_)) (below_size hB_)); have HO284 := Aside0.mk (Kd.R_lower (Kd.R_newM (M := fun k_ => (w.heap.size ≤ k_)) ho1 (below_size hB_) (fun k_ h_ => h_)) (below_size hB_)); replace HR278_0 := Aside0.mk (Kd.C_below (by repeat (first | (with_reducible exact HR278_0.out) | (with_reducible refine Kd.C_alloc ?_ _) | (with_reducible refine Kd.C_drewN ?_ _) | (with_reducible refine Kd.C_drew ?_) | exact HR278_0.out)) hb); replace HB := b1_ hb; clear hb ho0 ho1) | ((with_reducible refine gate_dst (N := 8) rfl ?_); refine bx_ 8 #[.slice none 0 0, .slice none 0 0] 33 ?_; intro gb286 hg w23 hbox hb; replace HO_3 := Aside0.mk (Kd.S_below (Kd.S_elderB (ss_ HO_3) gb286 (Nat.le_of_eq hg.symm)) hb); replace HO_5 := Aside0.mk (Kd.V_below (Kd.V_elderB (by (with_reducible repeat (first | apply Kd.V_alloc | apply Kd.V_drewN | apply Kd.V_drew)); exact HO_5.out) gb286 (Nat.le_of_eq hg.symm)) hb); replace HO_18 := Aside0.mk (Kd.N_below (Kd.N_elderB (by (with_reducible repeat (first | apply Kd.N_alloc | apply Kd.N_drewN | apply Kd.N_drew)); exact HO_18.out) gb286 (Nat.le_of_eq hg.symm)) hb); replace HO_25 := Aside0.mk (Kd.N_below (Kd.N_elderB (by (with_reducible repeat (first | apply Kd.N_alloc | apply Kd.N_drewN | apply Kd.N_drew)); exact HO_25.out) gb286 (Nat.le_of_eq hg.symm)) hb); replace HL278_0 := Aside0.mk (Kd.V_below (Kd.V_elderB (by (with_reducible repeat (first | apply Kd.V_alloc | apply Kd.V_drewN | apply Kd.V_drew)); exact HL278_0.out) gb286 (Nat.le_of_eq hg.symm)) hb); replace HO281 := rb_ HO281 hb; replace HO284 := rb_ HO284 hb; replace HR278_0 := Aside0.mk (Kd.C_below (by repeat (first | (with_reducible exact HR278_0.out) | (with_reducible refine Kd.C_alloc ?_ _) | (with_reducible refine Kd.C_drewN ?_ _) | (with_reducible refine Kd.C_drew ?_) | exact HR278_0.out)) hb); have BK286 := Aside0.mk hbox; have GW286 := gw_ w hg; have GE286 := GW286; replace HB := b1_ hb; clear hb hbox hg; obtain ⟨Ao24, co24, eo24⟩ := Kd.R_slice HO281.out; subst eo24; obtain ⟨hcz25_0, hcz25_1, hfz25_0, hfz25_1⟩ := c2_ BK286; obtain ⟨Ao26, co26, eo26⟩ := Kd.R_slice HO284.out; subst eo26) | ((with_reducible refine gate_store (t := 33) (p := 8) rfl ?_); refine store_event (t := 33) (p := 8) (v := ?vo_w27) (w1 := ((w23.setCell ⟨gb286, 0, none⟩ (.slice Ao24 t279.length co24)).setCell ⟨gb286, 1, none⟩ (.slice Ao26 t282.length co26))) ?hg ?ho ?hn ?hr ?_; (case ho => rfl); (case hg => rfl); (case hn => rfl); (case hr => first | (go_simp; done) | (go_simp; rfl)); intro w27 hw; have n0_ : Aside0 (Kd.S k33 33 w27 w.heap.size (fun k_ => (w.heap.size ≤ k_) ∧ some k_ ≠ (.slice (some ad274) t268.length co9 : Value).ownBlock ∧ some k_ ≠ (.slice (some ad278) t275.length co15 : Value).ownBlock ∧ some k_ ≠ (.slice Ao24 t279.length co24 : Value).ownBlock ∧ some k_ ≠ (.slice Ao26 t282.length co26 : Value).ownBlock ∧ k_ ≠ gb286) u3 x3_3) := ⟨(by rw [hw]; exact (sw_ (Kd.S_mono (Kd.S_far (p := ⟨gb286, 1, none⟩) (Kd.S_far (p := ⟨gb286, 0, none⟩) (Kd.S_mono HO_3.out (fun k_ hk => (⟨hk, hk.2⟩ : _ ∧ k_ ≠ gb286))) (fun _ hk => hk.2) (.slice Ao24 t279.length co24)) (fun _ hk => hk.2) (.slice Ao26 t282.length co26)) (fun _ hk => ⟨hk.1.1.1.1.1, ⟨hk.1.1.1.1.2.1, ⟨hk.1.1.1.1.2.2, ⟨hk.1.1.1.2, ⟨hk.1.1.2, hk.1.2⟩⟩⟩⟩⟩))))⟩; have n1_ : Aside0 (Kd.V (Kd.int .i64) 3 w27 w.heap.size (fun k_ => (w.heap.size ≤ k_) ∧ some k_ ≠ (u3 : Value).ownBlock ∧ some k_ ≠ (.slice (some ad274) t268.length co9 : Value).ownBlock ∧ some k_ ≠ (.slice (some ad278) t275.length co15 : Value).ownBlock ∧ some k_ ≠ (.slice Ao24 t279.length co24 : Value).ownBlock ∧ some k_ ≠ (.slice Ao26 t282.length co26 : Value).ownBlock ∧ k_ ≠ gb286) (.slice A274_0 (rd_L5 t268 x20_2).length c274_0) (rd_L5 t268 x20_2)) := ⟨(by rw [hw]; exact (by (with_reducible repeat (first | apply Kd.V_alloc | apply Kd.V_drewN | apply Kd.V_drew)); exact Kd.V_mono (Kd.V_far (p := ⟨gb286, 1, none⟩) (Kd.V_far (p := ⟨gb286, 0, none⟩) (Kd.V_mono HO_5.out (fun k_ hk => (⟨hk, hk.2⟩ : _ ∧ k_ ≠ gb286))) (fun _ hk => hk.2) (.slice Ao24 t279.length co24)) (fun _ hk => hk.2) (.slice Ao26 t282.length co26)) (fun _ hk => ⟨hk.1.1.1.1.1, ⟨hk.1.1.1.1.2.1, ⟨hk.1.1.1.1.2.2.1, ⟨hk.1.1.1.1.2.2.2, ⟨hk.1.1.1.2, ⟨hk.1.1.2, hk.1.2⟩⟩⟩⟩⟩⟩)))⟩; have n2_ : Aside0 (Kd.N (Kd.slice 3 (Kd.int .i64)) 23 w27 w.heap.size (fun k_ => (w.heap.size ≤ k_) ∧ some k_ ≠ (u3 : Value).ownBlock ∧ some k_ ≠ (.slice (some ad278) t275.length co15 : Value).ownBlock ∧ some k_ ≠ (.slice Ao24 t279.length co24 : Value).ownBlock ∧ some k_ ≠ (.slice Ao26 t282.length co26 : Value).ownBlock ∧ k_ ≠ gb286) (.slice (some ad274) t268.length co9) t268) := ⟨(by rw [hw]; exact (by (with_reducible repeat (first | apply Kd.N_alloc | apply Kd.N_drewN | apply Kd.N_drew)); exact Kd.N_mono (Kd.N_far (p := ⟨gb286, 1, none⟩) (Kd.N_far (p := ⟨gb286, 0, none⟩) (Kd.N_mono HO_18.out (fun k_ hk => (⟨hk, hk.2⟩ : _ ∧ k_ ≠ gb286))) (fun _ hk => hk.2) (.slice Ao24 t279.length co24)) (fun _ hk => hk.2) (.slice Ao26 t282.length co26)) (fun _ hk => ⟨hk.1.1.1.1.1, ⟨hk.1.1.1.1.2.1, ⟨hk.1.1.1.1.2.2, ⟨hk.1.1.1.2, ⟨hk.1.1.2, hk.1.2⟩⟩⟩⟩⟩)))⟩; have n3_ : Aside0 (Kd.N (Kd.slice 3 (Kd.int .i64)) 23 w27 w.heap.size (fun k_ => (w.heap.size ≤ k_) ∧ some k_ ≠ (u3 : Value).ownBlock ∧ some k_ ≠ (.slice (some ad274) t268.length co9 : Value).ownBlock ∧ some k_ ≠ (.slice Ao24 t279.length co24 : Value).ownBlock ∧ some k_ ≠ (.slice Ao26 t282.length co26 : Value).ownBlock ∧ k_ ≠ gb286) (.slice (some ad278) t275.length co15) t275) := ⟨(by rw [hw]; exact (by (with_reducible repeat (first | apply Kd.N_alloc | apply Kd.N_drewN | apply Kd.N_drew)); exact Kd.N_mono (Kd.N_far (p := ⟨gb286, 1, none⟩) (Kd.N_far (p := ⟨gb286, 0, none⟩) (Kd.N_mono HO_25.out (fun k_ hk => (⟨hk, hk.2⟩ : _ ∧ k_ ≠ gb286))) (fun _ hk => hk.2) (.slice Ao24 t279.length co24)) (fun _ hk => hk.2) (.slice Ao26 t282.length co26)) (fun _ hk => ⟨hk.1.1.1.1.1, ⟨hk.1.1.1.1.2.1, ⟨hk.1.1.1.1.2.2, ⟨hk.1.1.1.2, ⟨hk.1.1.2, hk.1.2⟩⟩⟩⟩⟩)))⟩; have n4_ : Aside0 (Kd.V (Kd.int .i64) 3 w27 w.heap.size (fun k_ => (w.heap.size ≤ k_) ∧ some k_ ≠ (u3 : Value).ownBlock ∧ some k_ ≠ (.slice (some ad274) t268.length co9 : Value).ownBlock ∧ some k_ ≠ (.slice (some ad278) t275.length co15 : Value).ownBlock ∧ some k_ ≠ (.slice Ao24 t279.length co24 : Value).ownBlock ∧ some k_ ≠ (.slice Ao26 t282.length co26 : Value).ownBlock ∧ k_ ≠ gb286) (.slice A278_0 (rd_L5 t275 x27_3).length c278_0) (rd_L5 t275 x27_3)) := ⟨(by rw [hw]; exact (by (with_reducible repeat (first | apply Kd.V_alloc | apply Kd.V_drewN | apply Kd.V_drew)); exact Kd.V_mono (Kd.V_far (p := ⟨gb286, 1, none⟩) (Kd.V_far (p := ⟨gb286, 0, none⟩) (Kd.V_mono HL278_0.out (fun k_ hk => (⟨hk, hk.2⟩ : _ ∧ k_ ≠ gb286))) (fun _ hk => hk.2) (.slice Ao24 t279.length co24)) (fun _ hk => hk.2) (.slice Ao26 t282.length co26)) (fun _ hk => ⟨hk.1.1.1.1.1.1, ⟨hk.1.1.1.1.1.2.1, ⟨hk.1.1.1.1.1.2.2, ⟨hk.1.1.1.1.2, ⟨hk.1.1.1.2, ⟨hk.1.1.2, hk.1.2⟩⟩⟩⟩⟩⟩)))⟩; have n5_ : Aside0 (Kd.R (Kd.int .i64) 3 w27 w.heap.size (fun k_ => (w.heap.size ≤ k_) ∧ some k_ ≠ (.slice Ao26 t282.length co26 : Value).ownBlock) (.slice Ao24 t279.length co24) t279) := ⟨(by rw [hw]; exact (rw_ (Kd.R_mono (Kd.R_far (p := ⟨gb286, 1, none⟩) (Kd.R_far (p := ⟨gb286, 0, none⟩) (Kd.R_types HO281.out BK286.out (by decide)) (fun _ hk => hk.2) (.slice Ao24 t279.length co24)) (fun _ hk => hk.2) (.slice Ao26 t282.length co26)) (fun _ hk => ⟨hk.1.1, hk.1.2⟩))))⟩; have n6_ : Aside0 (Kd.R (Kd.int .i64) 3 w27 w.heap.size (fun k_ => (w.heap.size ≤ k_) ∧ some k_ ≠ (.slice Ao24 t279.length co24 : Value).ownBlock) (.slice Ao26 t282.length co26) t282) := ⟨(by rw [hw]; exact (rw_ (Kd.R_mono (Kd.R_far (p := ⟨gb286, 1, none⟩) (Kd.R_far (p := ⟨gb286, 0, none⟩) (Kd.R_types HO284.out BK286.out (by decide)) (fun _ hk => hk.2) (.slice Ao24 t279.length co24)) (fun _ hk => hk.2) (.slice Ao26 t282.length co26)) (fun _ hk => ⟨hk.1.1, hk.1.2⟩))))⟩; have n7_ : Aside0 (w27.heap[gb286]? = some (.cells #[.slice Ao24 t279.length co24, .slice Ao26 t282.length co26] 33 (0, 0))) := ⟨(by rw [hw]; exact qp_)⟩; have n8_ : Aside0 (Below w.heap.size w w27) := ⟨(by rw [hw]; exact hB_)⟩; clear hw; clear HO_3; clear HO_5; clear HO_18; clear HO_25; clear HL278_0; clear HO281; clear HO284; clear BK286; clear HB; have HO_3 := n0_; have HO_5 := n1_; have HO_18 := n2_; have HO_25 := n3_; have HL278_0 := n4_; have HO281 := n5_; have HO284 := n6_; have BK286 := n7_; have HB := n8_; clear n0_ n1_ n2_ n3_ n4_ n5_ n6_ n7_ n8_; obtain ⟨hcz28_0, hcz28_1, hfz28_0, hfz28_1⟩ := c2_ BK286) | ((with_reducible refine gate_builtin (b := .append) (xs := #[.tmp 39, .tmp 41]) rfl ?_); at_builtin; refine Kd.S_append k33 (w0 := w) w.heap.size rfl (.tmp 39) (.tmp 41) 25 33 (.agg #[(.slice none 0 0), (.slice none 0 0)]) 48 rfl Try.underlying25 info33 rfl (by decide) (by omega) u3 x3_3 (⟨t279, t282⟩ : S33) [.slice Ao24 t279.length co24, .slice Ao26 t282.length co26] (fun k_ => (w.heap.size ≤ k_) ∧ some k_ ≠ (.slice (some ad274) t268.length co9 : Value).ownBlock ∧ some k_ ≠ (.slice (some ad278) t275.length co15 : Value).ownBlock ∧ k_ ≠ gb286) (fun k_ => some k_ = (.slice Ao24 t279.length co24 : Value).ownBlock ∨ some k_ = (.slice Ao26 t282.length co26 : Value).ownBlock) rfl rfl ?aP ?aK ?aF ?aO ?aB ?aS ?aL ?_; (case aP => exact k33_mkM _ _ _ (⟨t279, t282⟩ : S33) (Kd.R_mono (Kd.R_tight rfl (Kd.R_mono (ok' := (fun k_ => ((fun k_ => (w.heap.size ≤ k_) ∧ some k_ ≠ (.slice (some ad274) t268.length co9 : Value).ownBlock ∧ some k_ ≠ (.slice (some ad278) t275.length co15 : Value).ownBlock ∧ k_ ≠ gb286)) k_ ∧ some k_ ≠ (u3 : Value).ownBlock)) (Kd.R_types (Kd.R_apart' (Kd.R_apart' (Kd.R_apart' (HO281.out) (Kd.N_typed HO_18.out) (by decide)) (Kd.N_typed HO_25.out) (by decide)) (Kd.S_typed HO_3.out) (by decide)) BK286.out (by decide)) (fun k_ hk => ⟨⟨hk.1.1.1.1.1, ⟨hk.1.1.1.2, ⟨hk.1.1.2, hk.2⟩⟩⟩, hk.1.2⟩))) (fun _ hk => .inl hk)) (Kd.R_mono (Kd.R_tight rfl (Kd.R_mono (ok' := (fun k_ => ((fun k_ => (w.heap.size ≤ k_) ∧ some k_ ≠ (.slice (some ad274) t268.length co9 : Value).ownBlock ∧ some k_ ≠ (.slice (some ad278) t275.length co15 : Value).ownBlock ∧ k_ ≠ gb286)) k_ ∧ some k_ ≠ (u3 : Value).ownBlock)) (Kd.R_types (Kd.R_apart' (Kd.R_apart' (Kd.R_apart' (HO284.out) (Kd.N_typed HO_18.out) (by decide)) (Kd.N_typed HO_25.out) (by decide)) (Kd.S_typed HO_3.out) (by decide)) BK286.out (by decide)) (fun k_ hk => ⟨⟨hk.1.1.1.1.1, ⟨hk.1.1.1.2, ⟨hk.1.1.2, hk.2⟩⟩⟩, hk.1.2⟩))) (fun _ hk => .inr hk)) (fun k_ h0_ h1_ => (HO281.out.1 k_ h0_).2 h1_.symm)); (case aK => exact (fun k_ hk => hk.elim (fun e_ => ((Kd.R_mono (ok' := (fun k_ => ((fun k_ => (w.heap.size ≤ k_) ∧ some k_ ≠ (.slice (some ad274) t268.length co9 : Value).ownBlock ∧ some k_ ≠ (.slice (some ad278) t275.length co15 : Value).ownBlock ∧ k_ ≠ gb286)) k_ ∧ some k_ ≠ (u3 : Value).ownBlock)) (Kd.R_types (Kd.R_apart' (Kd.R_apart' (Kd.R_apart' (HO281.out) (Kd.N_typed HO_18.out) (by decide)) (Kd.N_typed HO_25.out) (by decide)) (Kd.S_typed HO_3.out) (by decide)) BK286.out (by decide)) (fun k_ hk => ⟨⟨hk.1.1.1.1.1, ⟨hk.1.1.1.2, ⟨hk.1.1.2, hk.2⟩⟩⟩, hk.1.2⟩))).1 k_ e_.symm) (fun e_ => ((Kd.R_mono (ok' := (fun k_ => ((fun k_ => (w.heap.size ≤ k_) ∧ some k_ ≠ (.slice (some ad274) t268.length co9 : Value).ownBlock ∧ some k_ ≠ (.slice (some ad278) t275.length co15 : Value).ownBlock ∧ k_ ≠ gb286)) k_ ∧ some k_ ≠ (u3 : Value).ownBlock)) (Kd.R_types (Kd.R_apart' (Kd.R_apart' (Kd.R_apart' (HO284.out) (Kd.N_typed HO_18.out) (by decide)) (Kd.N_typed HO_25.out) (by decide)) (Kd.S_typed HO_3.out) (by decide)) BK286.out (by decide)) (fun k_ hk => ⟨⟨hk.1.1.1.1.1, ⟨hk.1.1.1.2, ⟨hk.1.1.2, hk.2⟩⟩⟩, hk.1.2⟩))).1 k_ e_.symm))); (case aB => exact hB_); (case aF => exact (fun k_ hk => ⟨(Nat.le_trans (below_size hB_) hk), Kd.fresh' (Kd.N_lt (by (with_reducible repeat (first | apply Kd.N_alloc | apply Kd.N_drewN | apply Kd.N_drew)); exact HO_18.out)) k_ hk, Kd.fresh' (Kd.N_lt (by (with_reducible repeat (first | apply Kd.N_alloc | apply Kd.N_drewN | apply Kd.N_drew)); exact HO_25.out)) k_ hk, Kd.freshB (kk_ BK286) k_ hk⟩)); (case aO => exact (sw_ (Kd.S_mono HO_3.out (fun _ hk => ⟨⟨hk.1, ⟨hk.2.1, ⟨hk.2.2.1, hk.2.2.2.2.2⟩⟩⟩, fun e_ => e_.elim hk.2.2.2.1 hk.2.2.2.2.1⟩)))); (case aS => exact (below_size hB_)); (case aL => have := LMc21.out; omega); intro v288 w29 ho hb hg hat; rw [← Ny287.out] at ho; replace HO_5 := Aside0.mk (Kd.V_afterv (ok := (fun k_ => (w.heap.size ≤ k_) ∧ some k_ ≠ (.slice (some ad274) t268.length co9 : Value).ownBlock ∧ some k_ ≠ (.slice (some ad278) t275.length co15 : Value).ownBlock ∧ some k_ ≠ (.slice Ao24 t279.length co24 : Value).ownBlock ∧ some k_ ≠ (.slice Ao26 t282.length co26 : Value).ownBlock ∧ k_ ≠ gb286)) (by (with_reducible repeat (first | apply Kd.V_alloc | apply Kd.V_drewN | apply Kd.V_drew)); exact Kd.V_mono HO_5.out (fun _ hk => ⟨⟨hk.1, ⟨hk.2.2.1, ⟨hk.2.2.2.1, ⟨hk.2.2.2.2.1, ⟨hk.2.2.2.2.2.1, hk.2.2.2.2.2.2⟩⟩⟩⟩⟩, hk.2.1⟩)) hg hat); replace HO_18 := Aside0.mk (Kd.N_afterv (ok := (fun k_ => (w.heap.size ≤ k_) ∧ some k_ ≠ (.slice (some ad278) t275.length co15 : Value).ownBlock ∧ some k_ ≠ (.slice Ao24 t279.length co24 : Value).ownBlock ∧ some k_ ≠ (.slice Ao26 t282.length co26 : Value).ownBlock ∧ k_ ≠ gb286)) (by (with_reducible repeat (first | apply Kd.N_alloc | apply Kd.N_drewN | apply Kd.N_drew)); exact Kd.N_mono HO_18.out (fun _ hk => ⟨⟨hk.1, ⟨hk.2.2.1, ⟨hk.2.2.2.1, ⟨hk.2.2.2.2.1, hk.2.2.2.2.2⟩⟩⟩⟩, hk.2.1⟩)) hg hat); replace HO_25 := Aside0.mk (Kd.N_afterv (ok := (fun k_ => (w.heap.size ≤ k_) ∧ some k_ ≠ (.slice (some ad274) t268.length co9 : Value).ownBlock ∧ some k_ ≠ (.slice Ao24 t279.length co24 : Value).ownBlock ∧ some k_ ≠ (.slice Ao26 t282.length co26 : Value).ownBlock ∧ k_ ≠ gb286)) (by (with_reducible repeat (first | apply Kd.N_alloc | apply Kd.N_drewN | apply Kd.N_drew)); exact Kd.N_mono HO_25.out (fun _ hk => ⟨⟨hk.1, ⟨hk.2.2.1, ⟨hk.2.2.2.1, ⟨hk.2.2.2.2.1, hk.2.2.2.2.2⟩⟩⟩⟩, hk.2.1⟩)) hg hat); replace HL278_0 := Aside0.mk (Kd.V_afterv (ok := (fun k_ => (w.heap.size ≤ k_) ∧ some k_ ≠ (.slice (some ad274) t268.length co9 : Value).ownBlock ∧ some k_ ≠ (.slice (some ad278) t275.length co15 : Value).ownBlock ∧ some k_ ≠ (.slice Ao24 t279.length co24 : Value).ownBlock ∧ some k_ ≠ (.slice Ao26 t282.length co26 : Value).ownBlock ∧ k_ ≠ gb286)) (by (with_reducible repeat (first | apply Kd.V_alloc | apply Kd.V_drewN | apply Kd.V_drew)); exact Kd.V_mono HL278_0.out (fun _ hk => ⟨⟨hk.1, ⟨hk.2.2.1, ⟨hk.2.2.2.1, ⟨hk.2.2.2.2.1, ⟨hk.2.2.2.2.2.1, hk.2.2.2.2.2.2⟩⟩⟩⟩⟩, hk.2.1⟩)) hg hat); replace BK286 := Aside0.mk (blk_grown (kk_ BK286) hg (Kd.S_away HO_3.out (fun _ hk => hk.2.2.2.2.2))); replace HB := Aside0.mk hb; have HO289 := Aside0.mk ho; clear HO_3 HO281 HO284; clear ho hb hg hat))
                      go_roundg k3
                      case measure => have := HJ1.out; have := HK2.out; have := HK3.out; omega
                      case rel => exact ⟨(y287), (wrap64 (x27_3 + 1)), qc_, H', ⟨by have := HJ1.out; have := HK2.out; have := HK3.out; omega⟩, ⟨(sw_ (Kd.S_mono HO289.out (fun _ hk => ⟨hk.1, ⟨hk.2.1, hk.2.2.1⟩⟩)))⟩, ⟨by (with_reducible repeat (first | apply Kd.V_alloc | apply Kd.V_drewN | apply Kd.V_drew)); exact Kd.V_mono HO_5.out (fun _ hk => ⟨hk.1.1, ⟨hk.2, ⟨hk.1.2.1, hk.1.2.2.1⟩⟩⟩)⟩, ⟨by (with_reducible repeat (first | apply Kd.N_alloc | apply Kd.N_drewN | apply Kd.N_drew)); exact Kd.N_mono HO_18.out (fun _ hk => ⟨hk.1.1, ⟨hk.2, hk.1.2.1⟩⟩)⟩, ⟨by (with_reducible repeat (first | apply Kd.N_alloc | apply Kd.N_drewN | apply Kd.N_drew)); exact Kd.N_mono HO_25.out (fun _ hk => ⟨hk.1.1, ⟨hk.2, hk.1.2.1⟩⟩)⟩, ⟨hB_⟩⟩
                    · replace c20 := Bool.eq_false_iff.mpr c20
                      subst c20
                      have H1 : (impl_SurfacesWith.l1 k3 a0 x3_3 (rd_L5 t268 x20_2) t268 (t268.length : Int) x20_2 t275 (t275.length : Int) (wrap64 (x27_3 + 1))) = some r := by rw [if_neg (show ¬ (false = true) by decide)] at H; exact H
                      clear H
                      have H := H1
                      clear H1
                      have H' := Aside0.mk H
                      clear H
                      have p278 : 0 ≤ (x27_3 : Int) := of_decide_eq_true qe_
                      have q278 : x27_3 < (t275.length : Int) := of_decide_eq_true qe_
                      obtain ⟨ad278, A278_0, c278_0, e278, hx278_0, hl278_0, hi278_0⟩ := at_L5 (Kd.N_reads' HO_25.out).2.2 x27_3 p278 q278
                      cases e278
                      obtain ⟨ce278, hce278, hMe278, hcc278⟩ := Kd.N_get HO_25.out [] x27_3 p278 (by first | exact q278 | exact of_decide_eq_true qe_ | (have e_ := (Kd.N_reads' HO_25.out).1; omega))
                      obtain ⟨ua278_0, uc278_0, rfl, ul278_0, ge278_0⟩ := Kd.FK_slice_open hMe278
                      have hv278_0 := hcc278 0 _ rfl
                      rw [Nat.add_zero, show ((Kd.slice 3 (Kd.int .i64))).sz = 1 from rfl, Nat.mul_one] at hv278_0
                      replace hv278_0 := Option.some.inj (hv278_0.symm.trans hx278_0)
                      injection hv278_0 with hva_ hvn_ hvc_
                      rw [hva_] at ge278_0
                      rw [hvc_] at ul278_0
                      have HL278_0 := Aside0.mk (show Kd.V (Kd.int .i64) 3 _ w.heap.size _ _ (rd_L5 t275 x27_3) from Kd.V_mk ul278_0 ge278_0)
                      clear hva_ hvn_ hvc_ ge278_0 ul278_0
                      clear hcc278 hce278
                      have HR278_0 := Aside0.mk hi278_0
                      have HC278_0 := Aside0.mk hl278_0
                      clear hi278_0 hl278_0
                      replace p278 := eq_true p278
                      replace q278 := eq_true q278
                      go_wp2_with (first | ((with_reducible refine gate_callee (f := 17) rfl ?_); refine gL_ (some 35) Try.func17 #[.agg #[.slice A274_0 (rd_L5 t268 x20_2).length c274_0, .slice A278_0 (rd_L5 t275 x27_3).length c278_0]] rfl qa_ ?_; (with_reducible refine (impl_CanonOf.calls k3 _ _ (rd_L5 t268 x20_2) _ _ (rd_L5 t275 x27_3) t279 t282 false _ ?side1 ?side2 ?side3 ?side4 A19.out).mono ?_); (case side1 => exact cw_ ((Kd.V_reads' HO_5.out).2.2)); (case side2 => exact (Kd.V_reads' HO_5.out).2.1); (case side3 => repeat (first | exact (by repeat (first | (with_reducible exact HR278_0.out) | (with_reducible refine Kd.C_alloc ?_ _) | (with_reducible refine Kd.C_drewN ?_ _) | (with_reducible refine Kd.C_drew ?_) | exact HR278_0.out)) | (with_reducible refine Kd.C_alloc ?_ _) | (with_reducible refine Kd.C_drewN ?_ _) | (with_reducible refine Kd.C_drew ?_))); (case side4 => exact HC278_0.out); rintro e w30 ⟨v280, v283, rfl, ho0, ho1, hb⟩; refine ⟨_, rfl, ?_⟩; replace HO_3 := Aside0.mk (Kd.S_mono (Kd.S_told (Kd.S_told (Kd.S_old (ss_ HO_3) hb) (Kd.R_base ho0)) (Kd.R_base ho1)) (fun _ h_ => h_.1)); replace HO_5 := Aside0.mk (Kd.V_mono (Kd.V_told (Kd.V_told (Kd.V_old (by (with_reducible repeat (first | apply Kd.V_alloc | apply Kd.V_drewN | apply Kd.V_drew)); exact HO_5.out) hb) (Kd.R_base ho0)) (Kd.R_base ho1)) (fun _ h_ => h_.1)); replace HO_18 := Aside0.mk (Kd.N_mono (Kd.N_told (Kd.N_told (Kd.N_old (by (with_reducible repeat (first | apply Kd.N_alloc | apply Kd.N_drewN | apply Kd.N_drew)); exact HO_18.out) hb) (Kd.R_base ho0)) (Kd.R_base ho1)) (fun _ h_ => h_.1)); replace HO_25 := Aside0.mk (Kd.N_mono (Kd.N_told (Kd.N_told (Kd.N_old (by (with_reducible repeat (first | apply Kd.N_alloc | apply Kd.N_drewN | apply Kd.N_drew)); exact HO_25.out) hb) (Kd.R_base ho0)) (Kd.R_base ho1)) (fun _ h_ => h_.1)); replace HL278_0 := Aside0.mk (Kd.V_mono (Kd.V_told (Kd.V_told (Kd.V_old (by (with_reducible repeat (first | apply Kd.V_alloc | apply Kd.V_drewN | apply Kd.V_drew)); exact HL278_0.out) hb) (Kd.R_base ho0)) (Kd.R_base ho1)) (fun _ h_ => h_.1)); have HO281 := Aside0.mk (Kd.R_lower (Kd.R_newM (M := fun k_ => (w.heap.size ≤ k_)) ho0 (below_size hB_) (fun k_ h_ => h_)) (below_size hB_)); have HO284 := Aside0.mk (Kd.R_lower (Kd.R_newM (M := fun k_ => (w.heap.size ≤ k_)) ho1 (below_size hB_) (fun k_ h_ => h_)) (below_size hB_)); replace HR278_0 := Aside0.mk (Kd.C_below (by repeat (first | (with_reducible exact HR278_0.out) | (with_reducible refine Kd.C_alloc ?_ _) | (with_reducible refine Kd.C_drewN ?_ _) | (with_reducible refine Kd.C_drew ?_) | exact HR278_0.out)) hb); replace HB := b1_ hb; clear hb ho0 ho1) | ((with_reducible refine gate_dst (N := 8) rfl ?_); refine bx_ 8 #[.slice none 0 0, .slice none 0 0] 33 ?_; intro gb286 hg w31 hbox hb; replace HO_3 := Aside0.mk (Kd.S_below (Kd.S_elderB (ss_ HO_3) gb286 (Nat.le_of_eq hg.symm)) hb); replace HO_5 := Aside0.mk (Kd.V_below (Kd.V_elderB (by (with_reducible repeat (first | apply Kd.V_alloc | apply Kd.V_drewN | apply Kd.V_drew)); exact HO_5.out) gb286 (Nat.le_of_eq hg.symm)) hb); replace HO_18 := Aside0.mk (Kd.N_below (Kd.N_elderB (by (with_reducible repeat (first | apply Kd.N_alloc | apply Kd.N_drewN | apply Kd.N_drew)); exact HO_18.out) gb286 (Nat.le_of_eq hg.symm)) hb); replace HO_25 := Aside0.mk (Kd.N_below (Kd.N_elderB (by (with_reducible repeat (first | apply Kd.N_alloc | apply Kd.N_drewN | apply Kd.N_drew)); exact HO_25.out) gb286 (Nat.le_of_eq hg.symm)) hb); replace HL278_0 := Aside0.mk (Kd.V_below (Kd.V_elderB (by (with_reducible repeat (first | apply Kd.V_alloc | apply Kd.V_drewN | apply Kd.V_drew)); exact HL278_0.out) gb286 (Nat.le_of_eq hg.symm)) hb); replace HO281 := rb_ HO281 hb; replace HO284 := rb_ HO284 hb; replace HR278_0 := Aside0.mk (Kd.C_below (by repeat (first | (with_reducible exact HR278_0.out) | (with_reducible refine Kd.C_alloc ?_ _) | (with_reducible refine Kd.C_drewN ?_ _) | (with_reducible refine Kd.C_drew ?_) | exact HR278_0.out)) hb); have BK286 := Aside0.mk hbox; have GW286 := gw_ w hg; have GE286 := GW286; replace HB := b1_ hb; clear hb hbox hg; obtain ⟨Ao32, co32, eo32⟩ := Kd.R_slice HO281.out; subst eo32; obtain ⟨hcz33_0, hcz33_1, hfz33_0, hfz33_1⟩ := c2_ BK286; obtain ⟨Ao34, co34, eo34⟩ := Kd.R_slice HO284.out; subst eo34))
                      go_roundg k3
                      case measure => have := HJ1.out; have := HK2.out; have := HK3.out; omega
                      case rel => exact ⟨(x3_3), (wrap64 (x27_3 + 1)), qc_, H', ⟨by have := HJ1.out; have := HK2.out; have := HK3.out; omega⟩, ⟨(sw_ (Kd.S_mono (Kd.S_far (p := ⟨gb286, 1, none⟩) (Kd.S_far (p := ⟨gb286, 0, none⟩) (Kd.S_mono HO_3.out (fun k_ hk => (⟨hk, hk.2⟩ : _ ∧ k_ ≠ gb286))) (fun _ hk => hk.2) (.slice Ao32 t279.length co32)) (fun _ hk => hk.2) (.slice Ao34 t282.length co34)) (fun _ hk => ⟨hk.1.1.1.1.1, ⟨hk.1.1.1.1.2.1, hk.1.1.1.1.2.2⟩⟩)))⟩, ⟨by (with_reducible repeat (first | apply Kd.V_alloc | apply Kd.V_drewN | apply Kd.V_drew)); exact Kd.V_mono (Kd.V_far (p := ⟨gb286, 1, none⟩) (Kd.V_far (p := ⟨gb286, 0, none⟩) (Kd.V_mono HO_5.out (fun k_ hk => (⟨hk, hk.2⟩ : _ ∧ k_ ≠ gb286))) (fun _ hk => hk.2) (.slice Ao32 t279.length co32)) (fun _ hk => hk.2) (.slice Ao34 t282.length co34)) (fun _ hk => ⟨hk.1.1.1.1.1, ⟨hk.1.1.1.1.2.1, ⟨hk.1.1.1.1.2.2.1, hk.1.1.1.1.2.2.2⟩⟩⟩)⟩, ⟨by (with_reducible repeat (first | apply Kd.N_alloc | apply Kd.N_drewN | apply Kd.N_drew)); exact Kd.N_mono (Kd.N_far (p := ⟨gb286, 1, none⟩) (Kd.N_far (p := ⟨gb286, 0, none⟩) (Kd.N_mono HO_18.out (fun k_ hk => (⟨hk, hk.2⟩ : _ ∧ k_ ≠ gb286))) (fun _ hk => hk.2) (.slice Ao32 t279.length co32)) (fun _ hk => hk.2) (.slice Ao34 t282.length co34)) (fun _ hk => ⟨hk.1.1.1.1.1, ⟨hk.1.1.1.1.2.1, hk.1.1.1.1.2.2⟩⟩)⟩, ⟨by (with_reducible repeat (first | apply Kd.N_alloc | apply Kd.N_drewN | apply Kd.N_drew)); exact Kd.N_mono (Kd.N_far (p := ⟨gb286, 1, none⟩) (Kd.N_far (p := ⟨gb286, 0, none⟩) (Kd.N_mono HO_25.out (fun k_ hk => (⟨hk, hk.2⟩ : _ ∧ k_ ≠ gb286))) (fun _ hk => hk.2) (.slice Ao32 t279.length co32)) (fun _ hk => hk.2) (.slice Ao34 t282.length co34)) (fun _ hk => ⟨hk.1.1.1.1.1, ⟨hk.1.1.1.1.2.1, hk.1.1.1.1.2.2⟩⟩)⟩, ⟨hB_⟩⟩
                  · rw [if_neg c16] at H
                    have c16b0 := decide_eq_false c16
                    clear c16
                    have H' := Aside0.mk H
                    clear H
                    go_wp2
                    go_roundg k3
                    case measure => have := HJ1.out; have := HK2.out; have := HK3.out; omega
                    case rel => exact ⟨(x3_3), (wrap64 (x20_2 + 1)), qc_, H', ⟨by have := HJ1.out; have := HK2.out; have := HK3.out; omega⟩, ⟨(sw_ (Kd.S_mono HO_3.out (fun _ hk => ⟨hk.1, hk.2.1⟩)))⟩, ⟨by (with_reducible repeat (first | apply Kd.N_alloc | apply Kd.N_drewN | apply Kd.N_drew)); exact Kd.N_mono HO_18.out (fun _ hk => ⟨hk.1, hk.2.1⟩)⟩, ⟨hB_⟩⟩
            · rw [if_neg c10] at H
              have c10b0 := decide_eq_false c10
              clear c10
              obtain ⟨t271, A35, H⟩ := bi_ H
              obtain rfl := Option.some.inj H
              obtain ⟨Ao36, co36, eo36⟩ := Kd.S_slice HO_3.out
              subst eo36
              have HZ := Aside0.mk (impl_sortSurfaces.callsS _ _ _ _ w _ HB.out HO_3.out A35.out)
              go_wp2_with (first | ((with_reducible refine gate_callee (f := 51) rfl ?_); refine gL_ (some 46) Try.func51 #[.slice Ao36 x3_2.length co36] rfl qa_ ?_; (with_reducible refine HZ.out.mono ?_); rintro e wZ ⟨vZ, rfl, hoZ, hbZ, hkZ⟩; refine ⟨_, rfl, ?_⟩; have HO273 := Aside0.mk hoZ; replace HB := Aside0.mk hbZ; clear hoZ hbZ hkZ))
              go_ret
              exact ⟨_, qb_, (sw_ (Kd.S_mono HO273.out (fun _ _ => trivial))), hB_⟩
end Go.Proofs.Ytoijcallajegfaa.A
end
section
namespace Go.Proofs.Ytoijcallajegfaa.A
open Go.RowKit Go.Proofs.YtoijcallajegfaaW.PrintWords Go.Proofs.YtoijcallajegfaaW.PrintLast Go.Proofs.YtoijcallajegfaaW.PrintMore
attribute [local go_sem] max2_int min2_int max_two min_two max_three min_three max_four min_four
set_option linter.unusedVariables false
set_option linter.unusedSimpArgs false
mutual
def impl_CyclesOf.l0 : Nat → List Int → List Bool → List (List Int) → Int → Int → Option ((List (List Int)))
  | 0, _, _, _, _, _ => none
  | k + 1, x0, x3, x4, x16, x17 => if x17 < x16 then (if 0 ≤ x17 then (if x17 < (x3.length : Int) then (if rdOf false x3 x17 = true then (impl_CyclesOf.l0 k x0 x3 x4 x16 (wrap64 (x17 + 1))) else (impl_CyclesOf.l1 k x0 x3 x4 (([] : List Int)) x17 x16 x17)) else (none)) else (none)) else (some x4)
def impl_CyclesOf.l1 : Nat → List Int → List Bool → List (List Int) → List Int → Int → Int → Int → Option ((List (List Int)))
  | 0, _, _, _, _, _, _, _ => none
  | k + 1, x0, x3, x4, x6, x7, x16, x17 => if 0 ≤ x7 then (if x7 < (x3.length : Int) then (if rdOf false x3 x7 = true then (if x4.length < 5864062014805 then (impl_CyclesOf.l0 k x0 x3 (x4 ++ [x6]) x16 (wrap64 (x17 + 1))) else (none)) else (if x6.length < 17592186044416 then (if x7 < (x0.length : Int) then (impl_CyclesOf.l1 k x0 (x3.set (x7 : Int).toNat true) x4 (x6 ++ [x7]) (rd x0 x7) x16 x17) else (none)) else (none))) else (none)) else (none)
end
def impl_CyclesOf.f (k : Nat) (l0 : List Int) : Option ((List (List Int))) := (impl_PermOk.f k l0).bind fun t290 => (if t290 = true then (if 0 ≤ (l0.length : Int) then (if ((l0.length : Int) : Int).toNat ≤ 281474976710656 then (impl_CyclesOf.l0 k l0 (List.replicate ((l0.length : Int) : Int).toNat false) (([] : List (List Int))) (l0.length : Int) 0) else (none)) else (none)) else (some ([] : List (List Int))))
theorem impl_CyclesOf.mono_l : ∀ k, (∀ y0 y1 y2 y3 y4, LeO (impl_CyclesOf.l0 k y0 y1 y2 y3 y4) (impl_CyclesOf.l0 (k + 1) y0 y1 y2 y3 y4)) ∧ (∀ y0 y1 y2 y3 y4 y5 y6, LeO (impl_CyclesOf.l1 k y0 y1 y2 y3 y4 y5 y6) (impl_CyclesOf.l1 (k + 1) y0 y1 y2 y3 y4 y5 y6))
  | 0 => ⟨fun _ _ _ _ _ r h => by simp [impl_CyclesOf.l0] at h, fun _ _ _ _ _ _ _ r h => by simp [impl_CyclesOf.l1] at h⟩
  | k + 1 => by
    obtain ⟨ih0, ih1⟩ := impl_CyclesOf.mono_l k
    refine ⟨?_, ?_⟩
    · intro y0 y1 y2 y3 y4
      unfold impl_CyclesOf.l0
      repeat' first|exact ih0 _ _ _ _ _|exact ih1 _ _ _ _ _ _ _|exact impl_PermOk.mono _ _|exact lo_|refine LeO.ite ?_ ?_|refine LeO.bind ?_ (fun _ => ?_)
    · intro y0 y1 y2 y3 y4 y5 y6
      unfold impl_CyclesOf.l1
      repeat' first|exact ih0 _ _ _ _ _|exact ih1 _ _ _ _ _ _ _|exact impl_PermOk.mono _ _|exact lo_|refine LeO.ite ?_ ?_|refine LeO.bind ?_ (fun _ => ?_)
theorem impl_CyclesOf.mono : ∀ a0 k, LeO (impl_CyclesOf.f k a0) (impl_CyclesOf.f (k + 1) a0) := by
  intro a0 k
  obtain ⟨ih0, ih1⟩ := impl_CyclesOf.mono_l k
  unfold impl_CyclesOf.f
  repeat' first|exact ih0 _ _ _ _ _|exact ih1 _ _ _ _ _ _ _|exact impl_PermOk.mono _ _|exact lo_|refine LeO.ite ?_ ?_|refine LeO.bind ?_ (fun _ => ?_)
set_option maxHeartbeats 8000000 in
set_option maxRecDepth 100000 in
theorem impl_CyclesOf.calls (k : Nat) (A0 : Option Addr) (c0 : Nat) (l0 : List Int) (r : List (List Int)) (w : World) (hr0 : Kd.C (Kd.int .i64) w A0 l0.length l0) (hc0 : l0.length ≤ c0) (h : impl_CyclesOf.f k l0 = some r) :
    Calls Try.prog 119 #[.slice A0 l0.length c0] w fun e w' => ∃ v0_ : Value, e = .returned (v0_) ∧ Kd.S (Kd.slice 3 (Kd.int .i64)) 23 w' w.heap.size (fun _ => True) v0_ r ∧ Below w.heap.size w w' := by
  have HR0 := Aside0.mk hr0
  have HC0 := Aside0.mk hc0
  clear hr0 hc0
  have HB := Aside0.mk (Below.refl w.heap.size w)
  have H := h
  unfold impl_CyclesOf.f at H
  clear h
  obtain ⟨t290, A2, H⟩ := bi_ H
  by_cases c3 : t290 = true
  · subst c3
    rw [if_pos rfl] at H
    have c4 := cp_ H
    replace H := ca_ H
    have c4b0 := eq_true c4
    have c4b1 := decide_eq_true c4
    clear c4
    have c5 := cp_ H
    replace H := ca_ H
    have c5b0 := eq_true c5
    have c5b1 := decide_eq_true c5
    clear c5
    obtain ⟨y291, hy291⟩ : ∃ y_ : List Bool, y_ = (List.replicate ((l0.length : Int) : Int).toNat false) := ⟨_, rfl⟩
    replace H : (impl_CyclesOf.l0 k l0 y291 (([] : List (List Int))) (l0.length : Int) 0) = some r := by first | (rw [hy291]; exact H) | exact H
    have Ny291 := Aside0.mk hy291
    clear hy291
    obtain ⟨y294, hy294⟩ : ∃ y_ : List (List Int), y_ = (([] : List (List Int))) := ⟨_, rfl⟩
    replace H : (impl_CyclesOf.l0 k l0 y291 y294 (l0.length : Int) 0) = some r := by first | (rw [hy294]; exact H) | exact H
    have Ny294 := Aside0.mk hy294
    clear hy294
    have H' := Aside0.mk H
    clear H
    go_enter Try.func119, Try.ntmps119
    go_wp2_with (first | ((with_reducible refine gate_callee (f := 109) rfl ?_); refine gL_ (some 9) Try.func109 #[.slice A0 l0.length c0] rfl qa_ ?_; (with_reducible refine (impl_PermOk.calls k _ _ l0 true _ (cc_ HR0) HC0.out A2.out).mono ?_); rintro e w6 ⟨rfl, hb⟩; refine ⟨_, rfl, ?_⟩; replace HB := b1_ hb; clear hb) | ((with_reducible refine gate_dst (N := 13) rfl ?_); refine Kd.R_make Kd.bool _ 4 rfl (N := 13) rfl 111 _ _ rfl (l0.length : Int) rfl rfl Try.underlying111 (.bool false) 1 info4 rfl (by decide) (by omega) false (ok := fun _ => True) (okp := fun _ => True) rfl (fun _ hk => hk) trivial (of_decide_eq_true qe_) (Nat.le_trans (Nat.mul_le_mul_right _ (of_decide_eq_true qe_ : (l0.length : Int).toNat ≤ 281474976710656)) (by omega)) (Below.refl _ _) (Nat.le_refl _) ?_; intro v292 w7 ho8 hb hg_ hnew_; clear hg_ hnew_; (first | rw [← Ny291.out] at ho8 | (simp only [Int.reduceToNat] at ho8; rw [← Ny291.out] at ho8)); have HO293 := rl_ w ho8; replace HB := b1_ hb; clear hb ho8) | ((with_reducible refine gate_dst (N := 14) rfl ?_); refine Kd.S_lit (Kd.slice 3 (Kd.int .i64)) _ 23 ?hg (N := 14) ?hd (xs := ([] : List (List Int))) (inner := []) (ok := fun _ => True) (okp := fun _ => True) ?hr ?hp (fun _ hk => hk) trivial (Below.refl _ _) (Nat.le_refl _) (by simp) ?_; (case hd => rfl); (case hg => rfl); (case hr => first | (go_simp; done) | (go_simp; rfl)); (case hp => exact (Reps.none _ _)); intro v295 w9 ho10 hb hg_ hnew_; clear hg_ hnew_; (first | rw [← Ny294.out] at ho10 | (simp only [Int.reduceToNat] at ho10; rw [← Ny294.out] at ho10)); replace HO293 := rb_ HO293 hb; have HO296 := Aside0.mk (Kd.S_lower ho10 (below_size hB_)); replace HB := b1_ hb; clear hb ho10))
    go_loopg [4, 17] k (fun kq v4 v17 w' => ∃ (x3_1 : List Bool) (x4_1 : List (List Int)) (x17_1 : Int), v17 = .int .i64 x17_1 ∧ Aside0 (impl_CyclesOf.l0 kq l0 x3_1 x4_1 (l0.length : Int) x17_1 = some r) ∧ Aside0 (kq ≤ k) ∧ Aside0 (Kd.R Kd.bool 4 w' w.heap.size (fun _ => True) v292 x3_1) ∧ Aside0 (Kd.S (Kd.slice 3 (Kd.int .i64)) 23 w' w.heap.size (fun _ => True) v4 x4_1) ∧ Aside0 (Below w.heap.size w w'))
    case atStart => exact ⟨(y291), (y294), (0), qc_, H', ⟨Nat.le_refl _⟩, ⟨(rr_ HO293)⟩, ⟨(ss_ HO296)⟩, ⟨hB_⟩⟩
    case round =>
      clear H'
      obtain ⟨x3_1, x4_1, x17_1, rfl, HA, HK1, HO_3, HO_4, HB⟩ := hrel
      cases gk with
      | zero => exact absurd HA.out (by simp [impl_CyclesOf.l0])
      | succ k1 =>
        have H := HA.out
        clear HA
        simp only [impl_CyclesOf.l0] at H
        by_cases c11 : x17_1 < (l0.length : Int)
        · rw [if_pos c11] at H
          have c11b0 := decide_eq_true c11
          clear c11
          have c12 := cp_ H
          replace H := ca_ H
          have c12b0 := decide_eq_true c12
          clear c12
          have c13 := cp_ H
          replace H := ca_ H
          have c13b0 := decide_eq_true c13
          clear c13
          obtain ⟨bq14, hbq14⟩ : ∃ b_ : Bool, b_ = (rdOf false x3_1 x17_1) := ⟨_, rfl⟩
          replace H : (if bq14 = true then (impl_CyclesOf.l0 k1 l0 x3_1 x4_1 (l0.length : Int) (wrap64 (x17_1 + 1))) else (impl_CyclesOf.l1 k1 l0 x3_1 x4_1 (([] : List Int)) x17_1 (l0.length : Int) x17_1)) = some r := by rw [← hbq14] at H; exact H
          have Nbq14 := Aside0.mk hbq14
          clear hbq14
          by_cases c15 : bq14 = true
          · subst c15
            rw [if_pos rfl] at H
            have H' := Aside0.mk H
            clear H
            obtain ⟨Ao16, co16, eo16⟩ := Kd.R_slice HO_3.out
            subst eo16
            have p297 : 0 ≤ (x17_1 : Int) := of_decide_eq_true qe_
            have q297 : x17_1 < (x3_1.length : Int) := of_decide_eq_true qe_
            obtain ⟨ad297, e297, hx297_0⟩ := Kd.at_bool (Kd.R_reads' HO_3.out).2.2 x17_1 p297 q297
            (try rw [← Nbq14.out] at hx297_0)
            cases e297
            replace p297 := eq_true p297
            replace q297 := eq_true q297
            go_wp2
            go_roundg k1
            case measure => have := HK1.out; omega
            case rel => exact ⟨(x3_1), (x4_1), (wrap64 (x17_1 + 1)), qc_, H', ⟨by have := HK1.out; omega⟩, ⟨(rr_ HO_3)⟩, ⟨(ss_ HO_4)⟩, ⟨hB_⟩⟩
          · replace c15 := Bool.eq_false_iff.mpr c15
            subst c15
            have H1 : (impl_CyclesOf.l1 k1 l0 x3_1 x4_1 (([] : List Int)) x17_1 (l0.length : Int) x17_1) = some r := by rw [if_neg (show ¬ (false = true) by decide)] at H; exact H
            clear H
            have H := H1
            clear H1
            obtain ⟨y298, hy298⟩ : ∃ y_ : List Int, y_ = (([] : List Int)) := ⟨_, rfl⟩
            replace H : (impl_CyclesOf.l1 k1 l0 x3_1 x4_1 y298 x17_1 (l0.length : Int) x17_1) = some r := by first | (rw [hy298]; exact H) | exact H
            have Ny298 := Aside0.mk hy298
            clear hy298
            have H' := Aside0.mk H
            clear H
            obtain ⟨Ao17, co17, eo17⟩ := Kd.R_slice HO_3.out
            subst eo17
            have p297 : 0 ≤ (x17_1 : Int) := of_decide_eq_true qe_
            have q297 : x17_1 < (x3_1.length : Int) := of_decide_eq_true qe_
            obtain ⟨ad297, e297, hx297_0⟩ := Kd.at_bool (Kd.R_reads' HO_3.out).2.2 x17_1 p297 q297
            (try rw [← Nbq14.out] at hx297_0)
            cases e297
            obtain ⟨g297, rfl⟩ : ∃ g_, ad297 = (⟨g_, 0, none⟩ : Addr) := Kd.R_head HO_3.out
            (try simp only [add_plain] at hx297_0)
            replace p297 := eq_true p297
            replace q297 := eq_true q297
            go_wp2_with (first | ((with_reducible refine gate_dst (N := 24) rfl ?_); refine Kd.R_lit (Kd.int .i64) _ 3 ?hg (N := 24) ?hd (xs := ([] : List Int)) (inner := []) (ok := fun _ => True) (okp := fun _ => True) ?hr ?hp (fun _ hk => hk) trivial (Below.refl _ _) (Nat.le_refl _) (by simp) ?_; (case hd => rfl); (case hg => rfl); (case hr => first | (go_simp; done) | (go_simp; rfl)); (case hp => exact (Reps.none _ _)); intro v299 w18 ho19 hb hg_ hnew_; clear hg_ hnew_; (first | rw [← Ny298.out] at ho19 | (simp only [Int.reduceToNat] at ho19; rw [← Ny298.out] at ho19)); replace HO_3 := rb_ HO_3 hb; replace HO_4 := Aside0.mk (Kd.S_elder' (ss_ HO_4) (Kd.R_base ho19) hb); have HO300 := rl_ w ho19; replace HB := b1_ hb; clear hb ho19))
            go_loopg [6, 7] k1 (fun kq v6 v7 w' => ∃ (x3_2 : List Bool) (x6_2 : List Int) (x7_2 : Int), v7 = .int .i64 x7_2 ∧ Aside0 (impl_CyclesOf.l1 kq l0 x3_2 x4_1 x6_2 x7_2 (l0.length : Int) x17_1 = some r) ∧ Aside0 (kq ≤ k1) ∧ Aside0 (Kd.R Kd.bool 4 w' w.heap.size (fun _ => True) (.slice (some (⟨g297, 0, none⟩ : Addr)) x3_1.length co17) x3_2) ∧ Aside0 (Kd.S (Kd.slice 3 (Kd.int .i64)) 23 w' w.heap.size (fun k_ => some k_ ≠ (v6 : Value).ownBlock) u4 x4_1) ∧ Aside0 (Kd.R (Kd.int .i64) 3 w' w.heap.size (fun _ => True) v6 x6_2) ∧ Aside0 (Below w.heap.size w w'))
            case atStart => exact ⟨(x3_1), (y298), (x17_1), qc_, H', ⟨Nat.le_refl _⟩, ⟨(rr_ HO_3)⟩, ⟨(sw_ (Kd.S_mono HO_4.out (fun _ hk => hk.2)))⟩, ⟨(rr_ HO300)⟩, ⟨hB_⟩⟩
            case round =>
              clear H'
              obtain ⟨x3_2, x6_2, x7_2, rfl, HA, HK2, HO_3, HO_4, HO_6, HB⟩ := hrel
              have hl3_2 := (Kd.R_reads' HO_3.out).1
              rw [hl3_2] at HO_3
              (try simp only [hl3_2])
              (try simp only [hl3_2] at HO_4)
              (try simp only [hl3_2] at HO_6)
              cases gk with
              | zero => exact absurd HA.out (by simp [impl_CyclesOf.l1])
              | succ k2 =>
                have H := HA.out
                clear HA
                simp only [impl_CyclesOf.l1] at H
                have c20 := cp_ H
                replace H := ca_ H
                have c20b0 := decide_eq_true c20
                clear c20
                have c21 := cp_ H
                replace H := ca_ H
                have c21b0 := decide_eq_true c21
                clear c21
                obtain ⟨bq22, hbq22⟩ : ∃ b_ : Bool, b_ = (rdOf false x3_2 x7_2) := ⟨_, rfl⟩
                replace H : (if bq22 = true then (if x4_1.length < 5864062014805 then (impl_CyclesOf.l0 k2 l0 x3_2 (x4_1 ++ [x6_2]) (l0.length : Int) (wrap64 (x17_1 + 1))) else (none)) else (if x6_2.length < 17592186044416 then (if x7_2 < (l0.length : Int) then (impl_CyclesOf.l1 k2 l0 (x3_2.set (x7_2 : Int).toNat true) x4_1 (x6_2 ++ [x7_2]) (rd l0 x7_2) (l0.length : Int) x17_1) else (none)) else (none))) = some r := by rw [← hbq22] at H; exact H
                have Nbq22 := Aside0.mk hbq22
                clear hbq22
                by_cases c23 : bq22 = true
                · subst c23
                  rw [if_pos rfl] at H
                  have c24 := cp_ H
                  replace H := ca_ H
                  have LMc24 := Aside0.mk c24
                  clear c24
                  obtain ⟨y302, hy302⟩ : ∃ y_ : List (List Int), y_ = (x4_1 ++ [x6_2]) := ⟨_, rfl⟩
                  replace H : (impl_CyclesOf.l0 k2 l0 x3_2 y302 (l0.length : Int) (wrap64 (x17_1 + 1))) = some r := by first | (rw [hy302]; exact H) | exact H
                  have Ny302 := Aside0.mk hy302
                  clear hy302
                  have H' := Aside0.mk H
                  clear H
                  have p301 : 0 ≤ (x7_2 : Int) := of_decide_eq_true qe_
                  have q301 : x7_2 < (x3_2.length : Int) := of_decide_eq_true qe_
                  obtain ⟨ad301, e301, hx301_0⟩ := Kd.at_bool (Kd.R_reads' HO_3.out).2.2 x7_2 p301 q301
                  (try rw [← Nbq14.out] at hx301_0)
                  (try rw [← Nbq22.out] at hx301_0)
                  obtain rfl : (⟨g297, 0, none⟩ : Addr) = ad301 := (by injection e301)
                  (try simp only [add_plain] at hx301_0)
                  replace p301 := eq_true p301
                  replace q301 := eq_true q301
                  obtain ⟨Ao26, co26, eo26⟩ := Kd.R_slice HO_6.out
                  subst eo26
                  go_wp2_with (first | ((with_reducible refine gate_builtin (b := .append) (xs := #[.tmp 42, .tmp 44]) rfl ?_); at_builtin; refine Kd.S_append (Kd.slice 3 (Kd.int .i64)) (w0 := w) w.heap.size rfl (.tmp 42) (.tmp 44) 28 23 (.slice none 0 0) 24 rfl Try.underlying28 info23 rfl (by decide) (by omega) u4 x4_1 x6_2 [.slice Ao26 x6_2.length co26] (fun _ => True) (fun k_ => some k_ = (.slice Ao26 x6_2.length co26 : Value).ownBlock) rfl rfl ?aP (fun k_ hk_ => ((Kd.R_mono (ok' := fun k_ => ((fun _ => True)) k_ ∧ some k_ ≠ (u4 : Value).ownBlock) (Kd.R_apart' (HO_6.out) (Kd.S_typed HO_4.out) (by decide)) (fun k_ hk => ⟨trivial, hk.2⟩))).1 k_ hk_.symm) ?aF ?aO ?aB ?aS ?aL ?_; (case aP => exact Kd.M_row (Kd.R_mono (Kd.R_tight rfl (Kd.R_mono (ok' := fun k_ => ((fun _ => True)) k_ ∧ some k_ ≠ (u4 : Value).ownBlock) (Kd.R_apart' (HO_6.out) (Kd.S_typed HO_4.out) (by decide)) (fun k_ hk => ⟨trivial, hk.2⟩))) (fun _ h_ => h_))); (case aB => exact hB_); (case aF => exact (fun _ _ => trivial)); (case aO => exact (sw_ (Kd.S_mono HO_4.out (fun k_ hk => ⟨trivial, fun e_ => hk e_⟩)))); (case aS => exact (below_size hB_)); (case aL => have := LMc24.out; omega); intro v303 w25 ho hb hg hat; rw [← Ny302.out] at ho; replace HO_3 := Aside0.mk (Kd.R_over' (rr_ HO_3) (Kd.S_typed (ss_ HO_4)) (by decide) hg); replace HB := Aside0.mk hb; have HO304 := Aside0.mk ho; clear HO_4 HO_6; clear ho hb hg hat))
                  (try simp only [← hl3_2])
                  go_roundg k2
                  case measure => have := HK1.out; have := HK2.out; omega
                  case rel => exact ⟨(x3_2), (y302), (wrap64 (x17_1 + 1)), qc_, H', ⟨by have := HK1.out; have := HK2.out; omega⟩, ⟨by (try simp only [hl3_2]); (with_reducible repeat (first | apply Kd.R_alloc | apply Kd.R_drewN | apply Kd.R_drew)); exact HO_3.out⟩, ⟨by (try simp only [hl3_2]); (with_reducible repeat (first | apply Kd.S_alloc | apply Kd.S_drewN | apply Kd.S_drew)); exact HO304.out⟩, ⟨hB_⟩⟩
                · replace c23 := Bool.eq_false_iff.mpr c23
                  subst c23
                  have H1 : (if x6_2.length < 17592186044416 then (if x7_2 < (l0.length : Int) then (impl_CyclesOf.l1 k2 l0 (x3_2.set (x7_2 : Int).toNat true) x4_1 (x6_2 ++ [x7_2]) (rd l0 x7_2) (l0.length : Int) x17_1) else (none)) else (none)) = some r := by rw [if_neg (show ¬ (false = true) by decide)] at H; exact H
                  clear H
                  have H := H1
                  clear H1
                  obtain ⟨y305, hy305⟩ : ∃ y_ : List Bool, y_ = (x3_2.set (x7_2 : Int).toNat true) := ⟨_, rfl⟩
                  replace H : (if x6_2.length < 17592186044416 then (if x7_2 < (l0.length : Int) then (impl_CyclesOf.l1 k2 l0 y305 x4_1 (x6_2 ++ [x7_2]) (rd l0 x7_2) (l0.length : Int) x17_1) else (none)) else (none)) = some r := by first | (rw [hy305]; exact H) | exact H
                  have Ny305 := Aside0.mk hy305
                  clear hy305
                  have c28 := cp_ H
                  replace H := ca_ H
                  have LMc28 := Aside0.mk c28
                  clear c28
                  obtain ⟨y306, hy306⟩ : ∃ y_ : List Int, y_ = (x6_2 ++ [x7_2]) := ⟨_, rfl⟩
                  replace H : (if x7_2 < (l0.length : Int) then (impl_CyclesOf.l1 k2 l0 y305 x4_1 y306 (rd l0 x7_2) (l0.length : Int) x17_1) else (none)) = some r := by first | (rw [hy306]; exact H) | exact H
                  have Ny306 := Aside0.mk hy306
                  clear hy306
                  have c29 := cp_ H
                  replace H := ca_ H
                  have c29b0 := decide_eq_true c29
                  clear c29
                  have H' := Aside0.mk H
                  clear H
                  have p301 : 0 ≤ (x7_2 : Int) := of_decide_eq_true qe_
                  have q301 : x7_2 < (x3_2.length : Int) := of_decide_eq_true qe_
                  obtain ⟨ad301, e301, hx301_0⟩ := Kd.at_bool (Kd.R_reads' HO_3.out).2.2 x7_2 p301 q301
                  (try rw [← Nbq14.out] at hx301_0)
                  (try rw [← Nbq22.out] at hx301_0)
                  obtain rfl : (⟨g297, 0, none⟩ : Addr) = ad301 := (by injection e301)
                  (try simp only [add_plain] at hx301_0)
                  replace p301 := eq_true p301
                  replace q301 := eq_true q301
                  have p27 : 0 ≤ (x7_2 : Int) := of_decide_eq_true qe_
                  have q27 : (x7_2 : Int) < ((x3_2.length : Int) : Int) := of_decide_eq_true qe_
                  obtain ⟨go27, co27, eo27, gb27, gl27, cl27, HG27⟩ := Kd.R_form HO_3.out (by omega)
                  (first | cases eo27 | (injection eo27 with ea_ en_ ec_; (first | subst ea_ | (injection ea_ with ea_; subst ea_)); subst ec_; clear en_))
                  have GB27 := Aside0.mk gb27
                  have GG27 := Aside0.mk HG27
                  clear gb27 gl27 HG27
                  (first | simp only [add_plain] at hx297_0 | skip)
                  (first | simp only [add_plain] at hx301_0 | skip)
                  obtain ⟨hx27_0, hf27_0⟩ := Kd.R_celln false HO_3.out (x7_2 : Int) p27 q27
                  replace p27 := eq_true p27
                  replace q27 := eq_true q27
                  have HP30 := Kd.R_putg HO_3.out (x7_2 : Int) true
                  go_wp2_with (first | ((with_reducible refine gate_store (t := 4) (p := 37) rfl ?_); refine store_event (t := 4) (p := 37) (v := ?vo_w31) (w1 := (wr.setCell ⟨g297, (x7_2 : Int).toNat, none⟩ (.bool true))) ?hg ?ho ?hn ?hr ?_; (case ho => rfl); (case hg => rfl); (case hn => rfl); (case hr => first | (go_simp; done) | (go_simp; rfl)); intro w31 hw; have hg : wr.grownBy w31 (some g297) := (by rw [hw]; exact HP30.2); have hp_ : Kd.R Kd.bool 4 w31 w.heap.size (fun _ => True) (.slice (some ⟨g297, 0, none⟩) x3_2.length co17) y305 := (by rw [hw, Ny305.out]; exact HP30.1); clear HP30; replace HO_4 := Aside0.mk (Kd.S_over' (v := (.slice (some ⟨g297, 0, none⟩) x3_2.length co17)) (ss_ HO_4) (Kd.R_typed HO_3.out) (by decide) hg); replace HO_6 := Aside0.mk (Kd.R_over' (v := (.slice (some ⟨g297, 0, none⟩) x3_2.length co17)) (rr_ HO_6) (Kd.R_typed HO_3.out) (by decide) hg); replace HO_3 := Aside0.mk (hp_); replace HB := Aside0.mk ((by rw [hw]; exact below_set (HB.out) GB27.out : Below w.heap.size w w31)); clear hg hw hp_) | ((with_reducible refine gate_builtin (b := .append) (xs := #[.tmp 38, .tmp 40]) rfl ?_); at_builtin; refine Kd.R_append (Kd.int .i64) (w0 := w) w.heap.size rfl (.tmp 38) (.tmp 40) 23 3 (.int .i64 0) 8 rfl Try.underlying23 info3 rfl (by decide) (by omega) u6 x6_2 x7_2 [.int .i64 x7_2] (fun _ => True) (fun _ => False) rfl rfl ?aP (fun _ hk => hk.elim) ?aF ?aO ?aB ?aS ?aL ?_; (case aP => exact rfl); (case aB => exact hB_); (case aF => exact (fun _ _ => trivial)); (case aO => exact (rr_ HO_6)); (case aS => exact (below_size hB_)); (case aL => have := LMc28.out; omega); intro v307 w32 ho hb hg hat; rw [← Ny306.out] at ho; replace HO_3 := Aside0.mk (Kd.R_over' (rr_ HO_3) (Kd.R_typed (rr_ HO_6)) (by decide) hg); replace HO_4 := Aside0.mk (Kd.S_after (ok := (fun _ => True)) (sw_ (Kd.S_mono HO_4.out (fun _ hk => ⟨trivial, hk⟩))) hg hat); replace HB := Aside0.mk hb; have HO308 := Aside0.mk ho; clear HO_6; clear ho hb hg hat; have p309 : 0 ≤ (x7_2 : Int) := of_decide_eq_true qe_; have q309 : x7_2 < (l0.length : Int) := of_decide_eq_true qe_; obtain ⟨ad309, e309, hx309_0⟩ := Kd.at_int HR0.out x7_2 p309 q309; cases e309; replace hx309_0 := (HB.out.cell (World.block_lt_of_cell? w _ hx309_0)).trans hx309_0; replace p309 := eq_true p309; replace q309 := eq_true q309))
                  (try simp only [← hl3_2])
                  go_roundg k2
                  case measure => have := HK1.out; have := HK2.out; omega
                  case rel => exact ⟨(y305), (y306), (rd l0 x7_2), qc_, H', ⟨by have := HK1.out; have := HK2.out; omega⟩, ⟨by (try simp only [hl3_2]); (with_reducible repeat (first | apply Kd.R_alloc | apply Kd.R_drewN | apply Kd.R_drew)); exact HO_3.out⟩, ⟨by (try simp only [hl3_2]); (with_reducible repeat (first | apply Kd.S_alloc | apply Kd.S_drewN | apply Kd.S_drew)); exact Kd.S_mono HO_4.out (fun _ hk => hk.2)⟩, ⟨by (try simp only [hl3_2]); (with_reducible repeat (first | apply Kd.R_alloc | apply Kd.R_drewN | apply Kd.R_drew)); exact HO308.out⟩, ⟨hB_⟩⟩
        · rw [if_neg c11] at H
          have c11b0 := decide_eq_false c11
          clear c11
          obtain rfl := Option.some.inj H
          go_wp2
          go_ret
          exact ⟨_, qb_, (ss_ HO_4), hB_⟩
  · replace c3 := Bool.eq_false_iff.mpr c3
    subst c3
    have H1 : (some ([] : List (List Int))) = some r := by rw [if_neg (show ¬ (false = true) by decide)] at H; exact H
    clear H
    have H := H1
    clear H1
    obtain rfl := Option.some.inj H
    go_enter Try.func119, Try.ntmps119
    go_wp2_with (first | ((with_reducible refine gate_callee (f := 109) rfl ?_); refine gL_ (some 9) Try.func109 #[.slice A0 l0.length c0] rfl qa_ ?_; (with_reducible refine (impl_PermOk.calls k _ _ l0 false _ (cc_ HR0) HC0.out A2.out).mono ?_); rintro e w33 ⟨rfl, hb⟩; refine ⟨_, rfl, ?_⟩; replace HB := b1_ hb; clear hb))
    go_ret
    exact ⟨_, qb_, by first | exact Kd.S_nil _ _ _ _ _ | exact Kd.N_nil _ _ _ _ _ | exact Kd.V_nil _ _ _ _ _ | exact Kd.Q_nil _ _ _ _ _ | exact Kd.R_nil _ _ _ _ _, hB_⟩
end Go.Proofs.Ytoijcallajegfaa.A
end
section
namespace Go.Proofs.Ytoijcallajegfaa.A
open Go.RowKit Go.Proofs.YtoijcallajegfaaW.PrintWords Go.Proofs.YtoijcallajegfaaW.PrintLast Go.Proofs.YtoijcallajegfaaW.PrintMore
attribute [local go_sem] max2_int min2_int max_two min_two max_three min_three max_four min_four
set_option linter.unusedVariables false
set_option linter.unusedSimpArgs false
mutual
def impl_ThenPerm.j0 : Nat → List Int → List Int → Bool → Option (List Int)
  | 0, _, _, _ => none
  | k + 1, x0, x1, x22 => if x22 = true then (some ([] : List Int)) else (if 0 ≤ (x0.length : Int) then (if ((x0.length : Int) : Int).toNat ≤ 35184372088832 then (impl_ThenPerm.l0 k x1 (List.replicate ((x0.length : Int) : Int).toNat 0) x0 (x0.length : Int) 0) else (none)) else (none))
def impl_ThenPerm.l0 : Nat → List Int → List Int → List Int → Int → Int → Option (List Int)
  | 0, _, _, _, _, _ => none
  | k + 1, x1, x5, x26, x27, x28 => if x28 < x27 then (if 0 ≤ x28 then (if x28 < (x26.length : Int) then (if 0 ≤ (rd x26 x28) then (if (rd x26 x28) < (x1.length : Int) then (if x28 < (x5.length : Int) then (impl_ThenPerm.l0 k x1 (x5.set (x28 : Int).toNat (rd x1 (rd x26 x28))) x26 x27 (wrap64 (x28 + 1))) else (none)) else (none)) else (none)) else (none)) else (none)) else (some x5)
end
def impl_ThenPerm.f (k : Nat) (l0 : List Int) (l1 : List Int) : Option (List Int) := (impl_PermOk.f k l0).bind fun t316 => (if t316 = true then ((impl_PermOk.f k l1).bind fun t317 => (if t317 = true then (impl_ThenPerm.j0 k l0 l1 ((l0.length : Int) != (l1.length : Int))) else (impl_ThenPerm.j0 k l0 l1 true))) else (impl_ThenPerm.j0 k l0 l1 true))
theorem impl_ThenPerm.mono_l : ∀ k, (∀ y0 y1 y2, LeO (impl_ThenPerm.j0 k y0 y1 y2) (impl_ThenPerm.j0 (k + 1) y0 y1 y2)) ∧ (∀ y0 y1 y2 y3 y4, LeO (impl_ThenPerm.l0 k y0 y1 y2 y3 y4) (impl_ThenPerm.l0 (k + 1) y0 y1 y2 y3 y4))
  | 0 => ⟨fun _ _ _ r h => by simp [impl_ThenPerm.j0] at h, fun _ _ _ _ _ r h => by simp [impl_ThenPerm.l0] at h⟩
  | k + 1 => by
    obtain ⟨ih0, ih1⟩ := impl_ThenPerm.mono_l k
    refine ⟨?_, ?_⟩
    · intro y0 y1 y2
      unfold impl_ThenPerm.j0
      repeat' first|exact ih0 _ _ _|exact ih1 _ _ _ _ _|exact impl_PermOk.mono _ _|exact lo_|refine LeO.ite ?_ ?_|refine LeO.bind ?_ (fun _ => ?_)
    · intro y0 y1 y2 y3 y4
      unfold impl_ThenPerm.l0
      repeat' first|exact ih0 _ _ _|exact ih1 _ _ _ _ _|exact impl_PermOk.mono _ _|exact lo_|refine LeO.ite ?_ ?_|refine LeO.bind ?_ (fun _ => ?_)
theorem impl_ThenPerm.mono : ∀ a0 a1 k, LeO (impl_ThenPerm.f k a0 a1) (impl_ThenPerm.f (k + 1) a0 a1) := by
  intro a0 a1 k
  obtain ⟨ih0, ih1⟩ := impl_ThenPerm.mono_l k
  unfold impl_ThenPerm.f
  repeat' first|exact ih0 _ _ _|exact ih1 _ _ _ _ _|exact impl_PermOk.mono _ _|exact lo_|refine LeO.ite ?_ ?_|refine LeO.bind ?_ (fun _ => ?_)
set_option maxHeartbeats 8000000 in
set_option maxRecDepth 100000 in
theorem impl_ThenPerm.calls (k : Nat) (A0 : Option Addr) (c0 : Nat) (l0 : List Int) (A1 : Option Addr) (c1 : Nat) (l1 : List Int) (r : List Int) (w : World) (hr0 : Kd.C (Kd.int .i64) w A0 l0.length l0) (hc0 : l0.length ≤ c0) (hr1 : Kd.C (Kd.int .i64) w A1 l1.length l1) (hc1 : l1.length ≤ c1) (h : impl_ThenPerm.f k l0 l1 = some r) :
    Calls Try.prog 152 #[.slice A0 l0.length c0, .slice A1 l1.length c1] w fun e w' => ∃ v0_ : Value, e = .returned (v0_) ∧ Kd.R (Kd.int .i64) 3 w' w.heap.size (fun _ => True) v0_ r ∧ Below w.heap.size w w' := by
  have HR0 := Aside0.mk hr0
  have HC0 := Aside0.mk hc0
  clear hr0 hc0
  have HR1 := Aside0.mk hr1
  have HC1 := Aside0.mk hc1
  clear hr1 hc1
  have HB := Aside0.mk (Below.refl w.heap.size w)
  have H := h
  unfold impl_ThenPerm.f at H
  clear h
  have HC3 := Aside0.mk H
  clear H
  go_enter Try.func152, Try.ntmps152
  go_upto_region 1 with (fail)
  go_cut [22] (fun v22 wc => ∃ (kq : Nat) (x22_2 : Bool), v22 = .bool x22_2 ∧ Aside0 (impl_ThenPerm.j0 kq l0 l1 x22_2 = some r) ∧ Aside0 (kq ≤ k) ∧ Aside0 (Below w.heap.size w wc))
  case first =>
    have H := HC3.out
    clear HC3
    obtain ⟨t316, A4, H⟩ := bi_ H
    by_cases c5 : t316 = true
    · subst c5
      rw [if_pos rfl] at H
      obtain ⟨t317, A6, H⟩ := bi_ H
      by_cases c7 : t317 = true
      · subst c7
        rw [if_pos rfl] at H
        have H' := Aside0.mk H
        clear H
        go_wp2_with (first | ((with_reducible refine gate_callee (f := 109) rfl ?_); refine gL_ (some 9) Try.func109 #[.slice A0 l0.length c0] rfl qa_ ?_; (with_reducible refine (impl_PermOk.calls k _ _ l0 true _ (cb_ HR0) HC0.out A4.out).mono ?_); rintro e w8 ⟨rfl, hb⟩; refine ⟨_, rfl, ?_⟩; replace HB := b1_ hb; clear hb) | (go_at_call 109; (with_reducible refine (impl_PermOk.calls k _ _ l1 true _ (cb_ HR1) HC1.out A6.out).mono ?_); rintro e w9 ⟨rfl, hb⟩; replace HB := b1_ hb; clear hb))
        go_meet
        case rel => exact ⟨_, (((l0.length : Int) != (l1.length : Int))), qc_, H', ⟨qd_⟩, ⟨hB_⟩⟩
      · replace c7 := Bool.eq_false_iff.mpr c7
        subst c7
        have H1 : (impl_ThenPerm.j0 k l0 l1 true) = some r := by rw [if_neg (show ¬ (false = true) by decide)] at H; exact H
        clear H
        have H := H1
        clear H1
        have H' := Aside0.mk H
        clear H
        go_wp2_with (first | ((with_reducible refine gate_callee (f := 109) rfl ?_); refine gL_ (some 9) Try.func109 #[.slice A0 l0.length c0] rfl qa_ ?_; (with_reducible refine (impl_PermOk.calls k _ _ l0 true _ (cb_ HR0) HC0.out A4.out).mono ?_); rintro e w10 ⟨rfl, hb⟩; refine ⟨_, rfl, ?_⟩; replace HB := b1_ hb; clear hb) | (go_at_call 109; (with_reducible refine (impl_PermOk.calls k _ _ l1 false _ (cb_ HR1) HC1.out A6.out).mono ?_); rintro e w11 ⟨rfl, hb⟩; replace HB := b1_ hb; clear hb))
        go_meet
        case rel => exact ⟨_, (true), qc_, H', ⟨qd_⟩, ⟨hB_⟩⟩
    · replace c5 := Bool.eq_false_iff.mpr c5
      subst c5
      have H1 : (impl_ThenPerm.j0 k l0 l1 true) = some r := by rw [if_neg (show ¬ (false = true) by decide)] at H; exact H
      clear H
      have H := H1
      clear H1
      have H' := Aside0.mk H
      clear H
      go_wp2_with (first | ((with_reducible refine gate_callee (f := 109) rfl ?_); refine gL_ (some 9) Try.func109 #[.slice A0 l0.length c0] rfl qa_ ?_; (with_reducible refine (impl_PermOk.calls k _ _ l0 false _ (cb_ HR0) HC0.out A4.out).mono ?_); rintro e w12 ⟨rfl, hb⟩; refine ⟨_, rfl, ?_⟩; replace HB := b1_ hb; clear hb))
      go_meet
      case rel => exact ⟨_, (true), qc_, H', ⟨qd_⟩, ⟨hB_⟩⟩
  case rest =>
    clear HC3
    obtain ⟨kq, x22_2, rfl, HA, HJ2, HB⟩ := hcut
    cases kq with
    | zero => exact absurd HA.out (by simp [impl_ThenPerm.j0])
    | succ kj2 =>
      have H := HA.out
      clear HA
      simp only [impl_ThenPerm.j0] at H
      by_cases c13 : x22_2 = true
      · subst c13
        rw [if_pos rfl] at H
        obtain rfl := Option.some.inj H
        go_wp2
        go_ret
        exact ⟨_, qb_, by first | exact Kd.R_nil _ _ _ _ _ | exact Kd.N_nil _ _ _ _ _ | exact Kd.V_nil _ _ _ _ _ | exact Kd.Q_nil _ _ _ _ _ | exact Kd.S_nil _ _ _ _ _, hB_⟩
      · replace c13 := Bool.eq_false_iff.mpr c13
        subst c13
        have H1 : (if 0 ≤ (l0.length : Int) then (if ((l0.length : Int) : Int).toNat ≤ 35184372088832 then (impl_ThenPerm.l0 kj2 l1 (List.replicate ((l0.length : Int) : Int).toNat 0) l0 (l0.length : Int) 0) else (none)) else (none)) = some r := by rw [if_neg (show ¬ (false = true) by decide)] at H; exact H
        clear H
        have H := H1
        clear H1
        have c14 := cp_ H
        replace H := ca_ H
        have c14b0 := eq_true c14
        have c14b1 := decide_eq_true c14
        clear c14
        have c15 := cp_ H
        replace H := ca_ H
        have c15b0 := eq_true c15
        have c15b1 := decide_eq_true c15
        clear c15
        obtain ⟨y318, hy318⟩ : ∃ y_ : List Int, y_ = (List.replicate ((l0.length : Int) : Int).toNat 0) := ⟨_, rfl⟩
        replace H : (impl_ThenPerm.l0 kj2 l1 y318 l0 (l0.length : Int) 0) = some r := by first | (rw [hy318]; exact H) | exact H
        have Ny318 := Aside0.mk hy318
        clear hy318
        have H' := Aside0.mk H
        clear H
        go_wp2_with (first | ((with_reducible refine gate_dst (N := 25) rfl ?_); (try (refine gate_guard (by rfl) ?_; dsimp only)); refine Kd.R_make (Kd.int .i64) _ 3 rfl (N := 25) rfl 23 _ _ rfl (l0.length : Int) rfl rfl Try.underlying23 (.int .i64 0) 8 info3 rfl (by decide) (by omega) 0 (ok := fun _ => True) (okp := fun _ => True) rfl (fun _ hk => hk) trivial (of_decide_eq_true qe_) (Nat.le_trans (Nat.mul_le_mul_right _ (of_decide_eq_true qe_ : (l0.length : Int).toNat ≤ 35184372088832)) (by omega)) (Below.refl _ _) (Nat.le_refl _) ?_; intro v319 w16 ho17 hb hg_ hnew_; clear hg_ hnew_; (first | rw [← Ny318.out] at ho17 | (simp only [Int.reduceToNat] at ho17; rw [← Ny318.out] at ho17)); have HO320 := rl_ w ho17; replace HB := b1_ hb; clear hb ho17))
        go_loopg [28] kj2 (fun kq v28 w' => ∃ (x5_2 : List Int) (x28_2 : Int), v28 = .int .i64 x28_2 ∧ Aside0 (impl_ThenPerm.l0 kq l1 x5_2 l0 (l0.length : Int) x28_2 = some r) ∧ Aside0 (kq ≤ kj2) ∧ Aside0 (Kd.R (Kd.int .i64) 3 w' w.heap.size (fun _ => True) v319 x5_2) ∧ Aside0 (Below w.heap.size w w'))
        case atStart => exact ⟨(y318), (0), qc_, H', ⟨Nat.le_refl _⟩, ⟨(rr_ HO320)⟩, ⟨hB_⟩⟩
        case round =>
          clear H'
          obtain ⟨x5_2, x28_2, rfl, HA, HK2, HO_5, HB⟩ := hrel
          cases gk with
          | zero => exact absurd HA.out (by simp [impl_ThenPerm.l0])
          | succ k2 =>
            have H := HA.out
            clear HA
            simp only [impl_ThenPerm.l0] at H
            by_cases c18 : x28_2 < (l0.length : Int)
            · rw [if_pos c18] at H
              have c18b0 := decide_eq_true c18
              clear c18
              have c19 := cp_ H
              replace H := ca_ H
              have c19b0 := decide_eq_true c19
              clear c19
              have c20 := cp_ H
              replace H := ca_ H
              have c20b0 := decide_eq_true c20
              clear c20
              have c21 := cp_ H
              replace H := ca_ H
              have c21b0 := decide_eq_true c21
              clear c21
              have c22 := cp_ H
              replace H := ca_ H
              have c22b0 := decide_eq_true c22
              clear c22
              have c23 := cp_ H
              replace H := ca_ H
              have c23b0 := decide_eq_true c23
              clear c23
              obtain ⟨y323, hy323⟩ : ∃ y_ : List Int, y_ = (x5_2.set (x28_2 : Int).toNat (rd l1 (rd l0 x28_2))) := ⟨_, rfl⟩
              replace H : (impl_ThenPerm.l0 k2 l1 y323 l0 (l0.length : Int) (wrap64 (x28_2 + 1))) = some r := by first | (rw [hy323]; exact H) | exact H
              have Ny323 := Aside0.mk hy323
              clear hy323
              have H' := Aside0.mk H
              clear H
              have p321 : 0 ≤ (x28_2 : Int) := of_decide_eq_true qe_
              have q321 : x28_2 < (l0.length : Int) := of_decide_eq_true qe_
              obtain ⟨ad321, e321, hx321_0⟩ := Kd.at_int HR0.out x28_2 p321 q321
              cases e321
              replace hx321_0 := (HB.out.cell (World.block_lt_of_cell? w _ hx321_0)).trans hx321_0
              replace p321 := eq_true p321
              replace q321 := eq_true q321
              have p322 : 0 ≤ ((rd l0 x28_2) : Int) := of_decide_eq_true qe_
              have q322 : (rd l0 x28_2) < (l1.length : Int) := of_decide_eq_true qe_
              obtain ⟨ad322, e322, hx322_0⟩ := Kd.at_int HR1.out (rd l0 x28_2) p322 q322
              cases e322
              replace hx322_0 := (HB.out.cell (World.block_lt_of_cell? w _ hx322_0)).trans hx322_0
              replace p322 := eq_true p322
              replace q322 := eq_true q322
              have p24 : 0 ≤ (x28_2 : Int) := of_decide_eq_true qe_
              have q24 : (x28_2 : Int) < ((x5_2.length : Int) : Int) := of_decide_eq_true qe_
              obtain ⟨go24, co24, eo24, gb24, gl24, cl24, HG24⟩ := Kd.R_form HO_5.out (by omega)
              (first | cases eo24 | (injection eo24 with ea_ en_ ec_; (first | subst ea_ | (injection ea_ with ea_; subst ea_)); subst ec_; clear en_))
              have GB24 := Aside0.mk gb24
              have GG24 := Aside0.mk HG24
              clear gb24 gl24 HG24
              obtain ⟨hx24_0, hf24_0⟩ := Kd.R_celln 0 HO_5.out (x28_2 : Int) p24 q24
              replace p24 := eq_true p24
              replace q24 := eq_true q24
              have HP25 := Kd.R_putg HO_5.out (x28_2 : Int) (rd l1 (rd l0 x28_2))
              go_wp2_with (first | ((with_reducible refine gate_store (t := 3) (p := 39) rfl ?_); refine store_event (t := 3) (p := 39) (v := ?vo_w26) (w1 := (wr.setCell ⟨go24, (x28_2 : Int).toNat, none⟩ (.int .i64 (rd l1 (rd l0 x28_2))))) ?hg ?ho ?hn ?hr ?_; (case ho => rfl); (case hg => rfl); (case hn => rfl); (case hr => first | (go_simp; done) | (go_simp; rfl)); intro w26 hw; have hg : wr.grownBy w26 (some go24) := (by rw [hw]; exact HP25.2); have hp_ : Kd.R (Kd.int .i64) 3 w26 w.heap.size (fun _ => True) (.slice (some ⟨go24, 0, none⟩) x5_2.length co24) y323 := (by rw [hw, Ny323.out]; exact HP25.1); clear HP25; replace HO_5 := Aside0.mk (hp_); replace HB := Aside0.mk ((by rw [hw]; exact below_set (HB.out) GB24.out : Below w.heap.size w w26)); clear hg hw hp_))
              go_roundg k2
              case measure => have := HJ2.out; have := HK2.out; omega
              case rel => exact ⟨(y323), (wrap64 (x28_2 + 1)), qc_, H', ⟨by have := HJ2.out; have := HK2.out; omega⟩, ⟨(rr_ HO_5)⟩, ⟨hB_⟩⟩
            · rw [if_neg c18] at H
              have c18b0 := decide_eq_false c18
              clear c18
              obtain rfl := Option.some.inj H
              go_wp2
              go_ret
              exact ⟨_, qb_, (rr_ HO_5), hB_⟩
end Go.Proofs.Ytoijcallajegfaa.A
end
section
namespace Go.Proofs.Ytoijcallajegfaa.A
open Go.RowKit Go.Proofs.YtoijcallajegfaaW.PrintWords Go.Proofs.YtoijcallajegfaaW.PrintLast Go.Proofs.YtoijcallajegfaaW.PrintMore
attribute [local go_sem] max2_int min2_int max_two min_two max_three min_three max_four min_four
set_option linter.unusedVariables false
set_option linter.unusedSimpArgs false
def impl_AroundOf.f (k : Nat) (l0_0 : List Int) (l0_1 : List Int) : Option (List Int) := (impl_SurfaceOk.f k l0_0 l0_1).bind fun t325 => (if t325 = true then ((impl_ThenPerm.f k l0_0 l0_1).bind fun t326 => ((impl_InversePerm.f k l0_0).bind fun t329 => ((impl_InversePerm.f k l0_1).bind fun t332 => ((impl_ThenPerm.f k t329 t332).bind fun t335 => ((impl_ThenPerm.f k t326 t335).bind fun t338 => (some t338)))))) else (some ([] : List Int)))
theorem impl_AroundOf.mono : ∀ a0 a1 k, LeO (impl_AroundOf.f k a0 a1) (impl_AroundOf.f (k + 1) a0 a1) := by
  intro a0 a1 k
  unfold impl_AroundOf.f
  repeat' first|exact impl_InversePerm.mono _ _|exact impl_SurfaceOk.mono _ _ _|exact impl_ThenPerm.mono _ _ _|exact lo_|refine LeO.ite ?_ ?_|refine LeO.bind ?_ (fun _ => ?_)
def impl_AroundOf.T3 : Bool × List (List Nat × List Nat) := (true, [([], []), ([0], [0]), ([], []), ([2], [2]), ([1, 3], [1, 3]), ([], []), ([5], [5]), ([6, 4], [6]), ([], []), ([8], [8]), ([9, 7], [9]), ([7, 10, 10], [7, 10]), ([4, 11, 11], [4, 11]), ([12, 12, 0, 1, 2, 3, 4, 5, 6, 7, 8, 9, 10, 11, 12], [12])])
def impl_AroundOf.B3 : List Nat := [0, 1, 0, 4, 15, 0, 32, 127, 0, 256, 1023, 2047, 4095, 8191]
theorem impl_AroundOf.tab3 : rtab .any (opsOf Try.f120 3) = impl_AroundOf.T3 := by kernel_rfl
theorem impl_AroundOf.bits3 : waitsOk impl_AroundOf.T3.2 impl_AroundOf.B3 = true := by kernel_rfl
set_option maxHeartbeats 8000000 in
set_option maxRecDepth 100000 in
theorem impl_AroundOf.calls (k : Nat) (A0_0 : Option Addr) (c0_0 : Nat) (l0_0 : List Int) (A0_1 : Option Addr) (c0_1 : Nat) (l0_1 : List Int) (r : List Int) (w : World) (hr0_0 : Kd.C (Kd.int .i64) w A0_0 l0_0.length l0_0) (hc0_0 : l0_0.length ≤ c0_0) (hr0_1 : Kd.C (Kd.int .i64) w A0_1 l0_1.length l0_1) (hc0_1 : l0_1.length ≤ c0_1) (h : impl_AroundOf.f k l0_0 l0_1 = some r) :
    Calls Try.prog 120 #[.agg #[.slice A0_0 l0_0.length c0_0, .slice A0_1 l0_1.length c0_1]] w fun e w' => ∃ v0_ : Value, e = .returned (v0_) ∧ Kd.R (Kd.int .i64) 3 w' w.heap.size (fun _ => True) v0_ r ∧ Below w.heap.size w w' := by
  have hu33 := Try.underlying33
  have HR0_0 := Aside0.mk hr0_0
  have HC0_0 := Aside0.mk hc0_0
  clear hr0_0 hc0_0
  have HR0_1 := Aside0.mk hr0_1
  have HC0_1 := Aside0.mk hc0_1
  clear hr0_1 hc0_1
  have HB := Aside0.mk (Below.refl w.heap.size w)
  have H := h
  unfold impl_AroundOf.f at H
  clear h
  obtain ⟨t325, A2, H⟩ := bi_ H
  by_cases c3 : t325 = true
  · subst c3
    rw [if_pos rfl] at H
    obtain ⟨t326, A4, H⟩ := bi_ H
    obtain ⟨t329, A5, H⟩ := bi_ H
    obtain ⟨t332, A6, H⟩ := bi_ H
    obtain ⟨t335, A7, H⟩ := bi_ H
    obtain ⟨t338, A8, H⟩ := bi_ H
    obtain rfl := Option.some.inj H
    go_enter Try.func120, Try.ntmps120
    try go_wp2_with (first | ((with_reducible refine gate_dst (N := 1) rfl ?_); refine bx_ 1 #[.slice A0_0 l0_0.length c0_0, .slice A0_1 l0_1.length c0_1] 33 ?_; intro gb324 hg w9 hbox hb; have BK324 := Aside0.mk hbox; have GW324 := gw_ w hg; have GE324 := GW324; replace HB := b1_ hb; clear hb hbox hg; obtain ⟨hcz10_0, hcz10_1, hfz10_0, hfz10_1⟩ := c2_ BK324) | ((with_reducible refine gate_callee (f := 19) rfl ?_); refine gL_ (some 4) Try.func19 #[.agg #[.slice A0_0 l0_0.length c0_0, .slice A0_1 l0_1.length c0_1]] rfl qa_ ?_; (with_reducible refine (impl_SurfaceOk.calls k _ _ l0_0 _ _ l0_1 true _ (cb_ HR0_0) HC0_0.out (cb_ HR0_1) HC0_1.out A2.out).mono ?_); rintro e w11 ⟨rfl, hb⟩; refine ⟨_, rfl, ?_⟩; replace BK324 := bb_ BK324 hb; replace HB := b1_ hb; clear hb))
    replace BK324 := Aside0.mk (blk_drew BK324.out)
    replace HB := Aside0.mk (below_drew1 HB.out)
    refine start_ (n := 14) (S := fun w' => w'.cell? ⟨gb324, 0, none⟩ = some (.slice A0_0 l0_0.length c0_0) ∧ w'.cell? ⟨gb324, 1, none⟩ = some (.slice A0_1 l0_1.length c0_1)) (ds := []) (bl_ 14 0) (by kernel_rfl) rfl (by kernel_rfl) ⟨cz0_ BK324, cz1_ BK324⟩ (fun hHeld => ?_); refine with_tabW impl_AroundOf.tab3 impl_AroundOf.bits3 (fun HT_ HW_ => ?_)
    generalize w11.drew = w12 at BK324 HB hHeld ⊢
    refine pu_ 0 (some 6) (bl_ 14 1) HT_ ?_
    refine pu_ 2 (some 8) (bl_ 14 5) HT_ ?_
    refine pu_ 5 (some 11) (bl_ 14 37) HT_ ?_
    refine pu_ 8 (some 14) (bl_ 14 293) HT_ ?_
    refine ta_ 1 (some 7) (bl_ 14 295) HT_ HW_ hHeld ?_
    refine ta_ 3 (some 9) (bl_ 14 303) HT_ HW_ hHeld ?_
    refine ta_ 6 (some 12) (bl_ 14 367) HT_ HW_ hHeld ?_
    refine ta_ 9 (some 15) (bl_ 14 879) HT_ HW_ hHeld ?_
    refine on_ 4 (some 10) (bl_ 14 895) HT_ (fun K hK => ?_)
    refine gO_ Try.func152 #[.slice A0_0 l0_0.length c0_0, .slice A0_1 l0_1.length c0_1] (by rfl) rfl rfl qa_ ?_
    with_reducible refine (impl_ThenPerm.calls k _ _ l0_0 _ _ l0_1 t326 _ (cb_ HR0_0) HC0_0.out (cb_ HR0_1) HC0_1.out A4.out).mono ?_
    rintro e w13 ⟨v327, rfl, ho0, hb⟩
    refine ⟨_, rfl, ?_⟩
    have HO328 := rl_ w ho0
    replace BK324 := bb_ BK324 hb
    replace HB := b1_ hb
    clear hb ho0
    refine hK.out _ _ ⟨cz0_ BK324, cz1_ BK324⟩ (fun hHeld => ?_)
    clear hK K
    refine no_ (some 10) ?_
    refine on_ 7 (some 13) (bl_ 14 1023) HT_ (fun K hK => ?_)
    refine gO_ Try.func122 #[.slice A0_0 l0_0.length c0_0] (by rfl) rfl rfl qa_ ?_
    with_reducible refine (impl_InversePerm.calls k _ _ l0_0 t329 _ (cb_ HR0_0) HC0_0.out A5.out).mono ?_
    rintro e w14 ⟨v330, rfl, ho0, hb⟩
    refine ⟨_, rfl, ?_⟩
    have HO331 := Aside0.mk (Kd.R_lower (Kd.R_new' ho0 (Kd.R_lt (rr_ HO328))) (below_size hB_))
    replace HO328 := Aside0.mk (Kd.R_elder' (rr_ HO328) (Kd.R_base ho0) hb)
    replace BK324 := bb_ BK324 hb
    replace HB := b1_ hb
    clear hb ho0
    refine hK.out _ _ ⟨cz0_ BK324, cz1_ BK324⟩ (fun hHeld => ?_)
    clear hK K
    refine no_ (some 13) ?_
    refine on_ 10 (some 16) (bl_ 14 2047) HT_ (fun K hK => ?_)
    refine gO_ Try.func122 #[.slice A0_1 l0_1.length c0_1] (by rfl) rfl rfl qa_ ?_
    with_reducible refine (impl_InversePerm.calls k _ _ l0_1 t332 _ (cb_ HR0_1) HC0_1.out A6.out).mono ?_
    rintro e w15 ⟨v333, rfl, ho0, hb⟩
    refine ⟨_, rfl, ?_⟩
    have HO334 := Aside0.mk (Kd.R_lower (Kd.R_new' (Kd.R_new' ho0 (Kd.R_lt (rr_ HO328))) (Kd.R_lt (rr_ HO331))) (below_size hB_))
    replace HO328 := Aside0.mk (Kd.R_elder' (rr_ HO328) (Kd.R_base ho0) hb)
    replace HO331 := Aside0.mk (Kd.R_elder' (rr_ HO331) (Kd.R_base ho0) hb)
    replace BK324 := bb_ BK324 hb
    replace HB := b1_ hb
    clear hb ho0
    obtain ⟨Ao16, co16, eo16⟩ := Kd.R_slice HO331.out
    (first | subst eo16 | (injection eo16 with f1_ f2_ f3_; have f4_ := f1_.symm; have f5_ := f3_.symm; clear f1_ f2_ f3_; subst f4_; subst f5_))
    obtain ⟨Ao17, co17, eo17⟩ := Kd.R_slice HO334.out
    (first | subst eo17 | (injection eo17 with f1_ f2_ f3_; have f4_ := f1_.symm; have f5_ := f3_.symm; clear f1_ f2_ f3_; subst f4_; subst f5_))
    refine hK.out _ _ ⟨cz0_ BK324, cz1_ BK324⟩ (fun hHeld => ?_)
    clear hK K
    refine no_ (some 16) ?_
    refine on_ 11 (some 17) (bl_ 14 4095) HT_ (fun K hK => ?_)
    refine gO_ Try.func152 #[.slice Ao16 t329.length co16, .slice Ao17 t332.length co17] (by rfl) rfl rfl qa_ ?_
    with_reducible refine (impl_ThenPerm.calls k _ _ t329 _ _ t332 t335 _ (cr_ HO331) ((Kd.R_reads' HO331.out).2.1) (cr_ HO334) ((Kd.R_reads' HO334.out).2.1) A7.out).mono ?_
    rintro e w18 ⟨v336, rfl, ho0, hb⟩
    refine ⟨_, rfl, ?_⟩
    have HO337 := Aside0.mk (Kd.R_lower (Kd.R_new' (Kd.R_new' (Kd.R_new' ho0 (Kd.R_lt (rr_ HO328))) (Kd.R_lt (rr_ HO331))) (Kd.R_lt (rr_ HO334))) (below_size hB_))
    replace HO328 := Aside0.mk (Kd.R_elder' (rr_ HO328) (Kd.R_base ho0) hb)
    replace HO331 := Aside0.mk (Kd.R_elder' (rr_ HO331) (Kd.R_base ho0) hb)
    replace HO334 := Aside0.mk (Kd.R_elder' (rr_ HO334) (Kd.R_base ho0) hb)
    replace BK324 := bb_ BK324 hb
    replace HB := b1_ hb
    clear hb ho0
    obtain ⟨Ao19, co19, eo19⟩ := Kd.R_slice HO328.out
    (first | subst eo19 | (injection eo19 with f1_ f2_ f3_; have f4_ := f1_.symm; have f5_ := f3_.symm; clear f1_ f2_ f3_; subst f4_; subst f5_))
    obtain ⟨Ao20, co20, eo20⟩ := Kd.R_slice HO337.out
    (first | subst eo20 | (injection eo20 with f1_ f2_ f3_; have f4_ := f1_.symm; have f5_ := f3_.symm; clear f1_ f2_ f3_; subst f4_; subst f5_))
    refine hK.out _ _ ⟨cz0_ BK324, cz1_ BK324⟩ (fun hHeld => ?_)
    clear hK K
    refine no_ (some 17) ?_
    refine on_ 12 (some 18) (bl_ 14 8191) HT_ (fun K hK => ?_)
    refine gO_ Try.func152 #[.slice Ao19 t326.length co19, .slice Ao20 t335.length co20] (by rfl) rfl rfl qa_ ?_
    with_reducible refine (impl_ThenPerm.calls k _ _ t326 _ _ t335 t338 _ (cr_ HO328) ((Kd.R_reads' HO328.out).2.1) (cr_ HO337) ((Kd.R_reads' HO337.out).2.1) A8.out).mono ?_
    rintro e w21 ⟨v339, rfl, ho0, hb⟩
    refine ⟨_, rfl, ?_⟩
    have HO340 := Aside0.mk (Kd.R_lower (Kd.R_new' (Kd.R_new' (Kd.R_new' (Kd.R_new' ho0 (Kd.R_lt (rr_ HO328))) (Kd.R_lt (rr_ HO331))) (Kd.R_lt (rr_ HO334))) (Kd.R_lt (rr_ HO337))) (below_size hB_))
    replace HO328 := Aside0.mk (Kd.R_elder' (rr_ HO328) (Kd.R_base ho0) hb)
    replace HO331 := Aside0.mk (Kd.R_elder' (rr_ HO331) (Kd.R_base ho0) hb)
    replace HO334 := Aside0.mk (Kd.R_elder' (rr_ HO334) (Kd.R_base ho0) hb)
    replace HO337 := Aside0.mk (Kd.R_elder' (rr_ HO337) (Kd.R_base ho0) hb)
    replace BK324 := bb_ BK324 hb
    replace HB := b1_ hb
    clear hb ho0
    refine hK.out _ _ ⟨cz0_ BK324, cz1_ BK324⟩ (fun hHeld => ?_)
    clear hK K
    refine no_ (some 18) ?_
    refine pu_ 13 (some 2) (bl_ 14 16383) HT_ ?_
    refine done_ (done_of HT_.out (by kernel_rfl)) ?_
    try go_wp2
    go_ret
    exact ⟨_, qb_, (rw_ (Kd.R_mono HO340.out (fun _ hk => trivial))), hB_⟩
  · replace c3 := Bool.eq_false_iff.mpr c3
    subst c3
    have H1 : (some ([] : List Int)) = some r := by rw [if_neg (show ¬ (false = true) by decide)] at H; exact H
    clear H
    have H := H1
    clear H1
    obtain rfl := Option.some.inj H
    go_enter Try.func120, Try.ntmps120
    go_wp2_with (first | ((with_reducible refine gate_dst (N := 1) rfl ?_); refine bx_ 1 #[.slice A0_0 l0_0.length c0_0, .slice A0_1 l0_1.length c0_1] 33 ?_; intro gb324 hg w22 hbox hb; have BK324 := Aside0.mk hbox; have GW324 := gw_ w hg; have GE324 := GW324; replace HB := b1_ hb; clear hb hbox hg; obtain ⟨hcz23_0, hcz23_1, hfz23_0, hfz23_1⟩ := c2_ BK324) | ((with_reducible refine gate_callee (f := 19) rfl ?_); refine gL_ (some 4) Try.func19 #[.agg #[.slice A0_0 l0_0.length c0_0, .slice A0_1 l0_1.length c0_1]] rfl qa_ ?_; (with_reducible refine (impl_SurfaceOk.calls k _ _ l0_0 _ _ l0_1 false _ (cb_ HR0_0) HC0_0.out (cb_ HR0_1) HC0_1.out A2.out).mono ?_); rintro e w24 ⟨rfl, hb⟩; refine ⟨_, rfl, ?_⟩; replace BK324 := bb_ BK324 hb; replace HB := b1_ hb; clear hb))
    go_ret
    exact ⟨_, qb_, by first | exact Kd.R_nil _ _ _ _ _ | exact Kd.N_nil _ _ _ _ _ | exact Kd.V_nil _ _ _ _ _ | exact Kd.Q_nil _ _ _ _ _ | exact Kd.S_nil _ _ _ _ _, hB_⟩
end Go.Proofs.Ytoijcallajegfaa.A
end
section
namespace Go.Proofs.Ytoijcallajegfaa.A
open Go.RowKit Go.Proofs.YtoijcallajegfaaW.PrintWords Go.Proofs.YtoijcallajegfaaW.PrintLast Go.Proofs.YtoijcallajegfaaW.PrintMore
attribute [local go_sem] max2_int min2_int max_two min_two max_three min_three max_four min_four
set_option linter.unusedVariables false
set_option linter.unusedSimpArgs false
def impl_CornersOf.f (k : Nat) (l0_0 : List Int) (l0_1 : List Int) : Option ((List (List Int))) := (impl_SurfaceOk.f k l0_0 l0_1).bind fun t342 => (if t342 = true then ((impl_AroundOf.f k l0_0 l0_1).bind fun t343 => ((impl_CyclesOf.f k t343).bind fun t346 => (some t346))) else (some ([] : List (List Int))))
theorem impl_CornersOf.mono : ∀ a0 a1 k, LeO (impl_CornersOf.f k a0 a1) (impl_CornersOf.f (k + 1) a0 a1) := by
  intro a0 a1 k
  unfold impl_CornersOf.f
  repeat' first|exact impl_AroundOf.mono _ _ _|exact impl_CyclesOf.mono _ _|exact impl_SurfaceOk.mono _ _ _|exact lo_|refine LeO.ite ?_ ?_|refine LeO.bind ?_ (fun _ => ?_)
set_option maxHeartbeats 8000000 in
set_option maxRecDepth 100000 in
theorem impl_CornersOf.calls (k : Nat) (A0_0 : Option Addr) (c0_0 : Nat) (l0_0 : List Int) (A0_1 : Option Addr) (c0_1 : Nat) (l0_1 : List Int) (r : List (List Int)) (w : World) (hr0_0 : Kd.C (Kd.int .i64) w A0_0 l0_0.length l0_0) (hc0_0 : l0_0.length ≤ c0_0) (hr0_1 : Kd.C (Kd.int .i64) w A0_1 l0_1.length l0_1) (hc0_1 : l0_1.length ≤ c0_1) (h : impl_CornersOf.f k l0_0 l0_1 = some r) :
    Calls Try.prog 72 #[.agg #[.slice A0_0 l0_0.length c0_0, .slice A0_1 l0_1.length c0_1]] w fun e w' => ∃ v0_ : Value, e = .returned (v0_) ∧ Kd.S (Kd.slice 3 (Kd.int .i64)) 23 w' w.heap.size (fun _ => True) v0_ r ∧ Below w.heap.size w w' := by
  have hu33 := Try.underlying33
  have HR0_0 := Aside0.mk hr0_0
  have HC0_0 := Aside0.mk hc0_0
  clear hr0_0 hc0_0
  have HR0_1 := Aside0.mk hr0_1
  have HC0_1 := Aside0.mk hc0_1
  clear hr0_1 hc0_1
  have HB := Aside0.mk (Below.refl w.heap.size w)
  have H := h
  unfold impl_CornersOf.f at H
  clear h
  obtain ⟨t342, A2, H⟩ := bi_ H
  by_cases c3 : t342 = true
  · subst c3
    rw [if_pos rfl] at H
    obtain ⟨t343, A4, H⟩ := bi_ H
    obtain ⟨t346, A5, H⟩ := bi_ H
    obtain rfl := Option.some.inj H
    go_enter Try.func72, Try.ntmps72
    go_wp2_with (first | ((with_reducible refine gate_dst (N := 1) rfl ?_); refine bx_ 1 #[.slice A0_0 l0_0.length c0_0, .slice A0_1 l0_1.length c0_1] 33 ?_; intro gb341 hg w6 hbox hb; have BK341 := Aside0.mk hbox; have GW341 := gw_ w hg; have GE341 := GW341; replace HB := b1_ hb; clear hb hbox hg; obtain ⟨hcz7_0, hcz7_1, hfz7_0, hfz7_1⟩ := c2_ BK341) | ((with_reducible refine gate_callee (f := 19) rfl ?_); refine gL_ (some 4) Try.func19 #[.agg #[.slice A0_0 l0_0.length c0_0, .slice A0_1 l0_1.length c0_1]] rfl qa_ ?_; (with_reducible refine (impl_SurfaceOk.calls k _ _ l0_0 _ _ l0_1 true _ (cb_ HR0_0) HC0_0.out (cb_ HR0_1) HC0_1.out A2.out).mono ?_); rintro e w8 ⟨rfl, hb⟩; refine ⟨_, rfl, ?_⟩; replace BK341 := bb_ BK341 hb; replace HB := b1_ hb; clear hb; obtain ⟨hcz9_0, hcz9_1, hfz9_0, hfz9_1⟩ := c2_ BK341) | ((with_reducible refine gate_callee (f := 120) rfl ?_); refine gL_ (some 7) Try.func120 #[.agg #[.slice A0_0 l0_0.length c0_0, .slice A0_1 l0_1.length c0_1]] rfl qa_ ?_; (with_reducible refine (impl_AroundOf.calls k _ _ l0_0 _ _ l0_1 t343 _ (cb_ HR0_0) HC0_0.out (cb_ HR0_1) HC0_1.out A4.out).mono ?_); rintro e w10 ⟨v344, rfl, ho0, hb⟩; refine ⟨_, rfl, ?_⟩; have HO345 := rl_ w ho0; replace BK341 := bb_ BK341 hb; replace HB := b1_ hb; clear hb ho0; obtain ⟨Ao11, co11, eo11⟩ := Kd.R_slice HO345.out; subst eo11) | ((with_reducible refine gate_callee (f := 119) rfl ?_); refine gL_ (some 8) Try.func119 #[.slice Ao11 t343.length co11] rfl qa_ ?_; (with_reducible refine (impl_CyclesOf.calls k _ _ t343 t346 _ (cr_ HO345) ((Kd.R_reads' HO345.out).2.1) A5.out).mono ?_); rintro e w12 ⟨v347, rfl, ho0, hb⟩; refine ⟨_, rfl, ?_⟩; have HO348 := Aside0.mk (Kd.S_lower (Kd.S_new' ho0 (Kd.R_lt (rr_ HO345))) (below_size hB_)); replace HO345 := rb_ HO345 hb; replace BK341 := bb_ BK341 hb; replace HB := b1_ hb; clear hb ho0))
    go_ret
    exact ⟨_, qb_, (sw_ (Kd.S_mono HO348.out (fun _ hk => trivial))), hB_⟩
  · replace c3 := Bool.eq_false_iff.mpr c3
    subst c3
    have H1 : (some ([] : List (List Int))) = some r := by rw [if_neg (show ¬ (false = true) by decide)] at H; exact H
    clear H
    have H := H1
    clear H1
    obtain rfl := Option.some.inj H
    go_enter Try.func72, Try.ntmps72
    go_wp2_with (first | ((with_reducible refine gate_dst (N := 1) rfl ?_); refine bx_ 1 #[.slice A0_0 l0_0.length c0_0, .slice A0_1 l0_1.length c0_1] 33 ?_; intro gb341 hg w13 hbox hb; have BK341 := Aside0.mk hbox; have GW341 := gw_ w hg; have GE341 := GW341; replace HB := b1_ hb; clear hb hbox hg; obtain ⟨hcz14_0, hcz14_1, hfz14_0, hfz14_1⟩ := c2_ BK341) | ((with_reducible refine gate_callee (f := 19) rfl ?_); refine gL_ (some 4) Try.func19 #[.agg #[.slice A0_0 l0_0.length c0_0, .slice A0_1 l0_1.length c0_1]] rfl qa_ ?_; (with_reducible refine (impl_SurfaceOk.calls k _ _ l0_0 _ _ l0_1 false _ (cb_ HR0_0) HC0_0.out (cb_ HR0_1) HC0_1.out A2.out).mono ?_); rintro e w15 ⟨rfl, hb⟩; refine ⟨_, rfl, ?_⟩; replace BK341 := bb_ BK341 hb; replace HB := b1_ hb; clear hb))
    go_ret
    exact ⟨_, qb_, by first | exact Kd.S_nil _ _ _ _ _ | exact Kd.N_nil _ _ _ _ _ | exact Kd.V_nil _ _ _ _ _ | exact Kd.Q_nil _ _ _ _ _ | exact Kd.R_nil _ _ _ _ _, hB_⟩
end Go.Proofs.Ytoijcallajegfaa.A
end
section
/- Plain mathematics: lists that fall, and the lengths of cycles. No conditions. -/
namespace Go.Proofs.Ytoijcallajegfaa.M
set_option linter.unusedVariables false
set_option linter.unusedSimpArgs false
def insD (x : Nat) : List Nat → List Nat
  | [] => [x]
  | y :: l => if y < x then x :: y :: l else y :: insD x l
def sortD (l : List Nat) : List Nat := l.foldl (fun a x => insD x a) []
def Fall (l : List Nat) : Prop := l.Pairwise (fun a b => b ≤ a)
theorem insD_perm (x : Nat) (l : List Nat) : (insD x l).Perm (x :: l) := by
  induction l with
  | nil => exact List.Perm.refl _
  | cons y l ih =>
    unfold insD
    split
    · exact List.Perm.refl _
    · exact (List.Perm.cons y ih).trans (List.Perm.swap x y l)
theorem insD_fall {x : Nat} {l : List Nat} (h : Fall l) : Fall (insD x l) := by
  induction l with
  | nil => exact List.pairwise_singleton _ _
  | cons y l ih =>
    obtain ⟨h1, h2⟩ := List.pairwise_cons.mp h
    unfold insD
    split
    · rename_i hy
      refine List.pairwise_cons.mpr ⟨fun b hb => ?_, h⟩
      rcases List.mem_cons.mp hb with rfl | hb
      · omega
      · have := h1 b hb
        omega
    · rename_i hy
      refine List.pairwise_cons.mpr ⟨fun b hb => ?_, ih h2⟩
      rcases List.mem_cons.mp ((insD_perm x l).mem_iff.mp hb) with rfl | hb
      · omega
      · exact h1 b hb
theorem sortD_aux : ∀ (l a : List Nat), Fall a → Fall (l.foldl (fun a x => insD x a) a) ∧ (l.foldl (fun a x => insD x a) a).Perm (a ++ l) := by
  intro l
  induction l with
  | nil => intro a h; exact ⟨h, by simp⟩
  | cons x l ih =>
    intro a h
    obtain ⟨h1, h2⟩ := ih (insD x a) (insD_fall h)
    refine ⟨h1, h2.trans ?_⟩
    exact ((insD_perm x a).append_right l).trans (List.perm_middle (l₁ := a) (a := x) (l₂ := l)).symm
theorem sortD_fall (l : List Nat) : Fall (sortD l) := (sortD_aux l [] List.Pairwise.nil).1
theorem sortD_perm (l : List Nat) : (sortD l).Perm l := (sortD_aux l [] List.Pairwise.nil).2
theorem fall_uniq : ∀ {a b : List Nat}, Fall a → Fall b → a.Perm b → a = b := by
  intro a
  induction a with
  | nil => intro b _ _ h; exact (List.nil_perm.mp h).symm
  | cons x a ih =>
    intro b ha hb h
    cases b with
    | nil => exact absurd (List.perm_nil.mp h) (by simp)
    | cons y b =>
      obtain ⟨a1, a2⟩ := List.pairwise_cons.mp ha
      obtain ⟨b1, b2⟩ := List.pairwise_cons.mp hb
      have e : x = y := by
        have h1 : x ∈ y :: b := h.mem_iff.mp (by simp)
        have h2 : y ∈ x :: a := h.mem_iff.mpr (by simp)
        rcases List.mem_cons.mp h1 with e | h1
        · exact e
        · rcases List.mem_cons.mp h2 with e | h2
          · exact e.symm
          · have := b1 x h1
            have := a1 y h2
            omega
      subst e
      rw [ih a2 b2 (List.Perm.cons_inv h)]
theorem sortD_len (l : List Nat) : (sortD l).length = l.length := (sortD_perm l).length_eq
end Go.Proofs.Ytoijcallajegfaa.M
end
section
namespace Go.Proofs.Ytoijcallajegfaa.A
open Go.RowKit Go.Proofs.YtoijcallajegfaaW.PrintWords Go.Proofs.YtoijcallajegfaaW.PrintLast Go.Proofs.YtoijcallajegfaaW.PrintMore
attribute [local go_sem] max2_int min2_int max_two min_two max_three min_three max_four min_four
set_option linter.unusedVariables false
set_option linter.unusedSimpArgs false
def slices_SortFunc_int_int_73.f (l0 : List Int) : Option (List Int) := if (∀ x ∈ l0, 0 ≤ x ∧ x ≤ 4611686018427387904) ∧ l0.length < 4611686018427387904 then some ((M.sortD (l0.map Int.toNat)).map fun (n : Nat) => (n : Int)) else none
theorem slices_SortFunc_int_int_73.closure (x y : Int) (W : World) : Calls Try.prog 74 #[.int .i64 x, .int .i64 y] W fun e w' => e = .returned (.int .i64 (wrap64 (y - x))) ∧ ∃ q os', w' = Go.Sort.grow (W.drewN q) os' := by
  go_enter Try.func74, Try.ntmps74
  go_wp2
  go_ret
  exact ⟨by first | rfl | (rw [i64_w]), 0, #[], by rw [Go.Sort.grow_empty]; rfl⟩
theorem slices_SortFunc_int_int_73.ord : M.Ord3 (fun x : Int => 0 ≤ x ∧ x ≤ 4611686018427387904) (fun x y => wrap64 (y - x)) where
  irr x hx := by unfold wrap64; omega
  tr x y z hx hy hz h1 h2 := by unfold wrap64 at *; omega
  nt x y z hx hy hz h1 h2 := by unfold wrap64 at *; omega
set_option maxHeartbeats 8000000 in
set_option maxRecDepth 100000 in
theorem slices_SortFunc_int_int_73.calls (P0_ : Nat → Prop) (u9000_ : Value) (l0 : List Int) (r : List Int) (w0 w : World) (hB : Below w0.heap.size w0 w) (ho0 : Kd.R (Kd.int .i64) 3 w w0.heap.size P0_ u9000_ l0) (h : slices_SortFunc_int_int_73.f l0 = some r) :
    Calls Try.prog 73 #[u9000_, .func (.func 74) #[] #[]] w fun e w' => e = .returned (.tuple #[]) ∧ Kd.R (Kd.int .i64) 3 w' w0.heap.size (fun k_ => (P0_ k_ ∨ w.heap.size ≤ k_)) u9000_ r ∧ Below w0.heap.size w0 w' ∧ Kept w w' (fun k_ => P0_ k_) := by
  unfold slices_SortFunc_int_int_73.f at h
  split at h
  · rename_i hq
    obtain rfl := Option.some.inj h
    have key := M.sortN1 (d := Kd.int .i64) (Q := fun x : Int => 0 ≤ x ∧ x ≤ 4611686018427387904) (cf := fun x y => wrap64 (y - x)) Try.sortA73 Try.sortB73 rfl slices_SortFunc_int_int_73.ord 74 (enters_of Try.func74 (by kernel_rfl) rfl)
      (fun W x y cx cy _ _ hx hy => by
        have e1 : cx = .int .i64 x := (List.cons.inj hx).1
        have e2 : cy = .int .i64 y := (List.cons.inj hy).1
        subst e1 e2
        exact slices_SortFunc_int_int_73.closure x y W) ho0 hq.1 hq.2
    refine key.mono ?_
    rintro e w' ⟨rfl, xs', hp, hs, hR, hK, hB2⟩
    have hx : xs' = (M.sortD (l0.map Int.toNat)).map fun (n : Nat) => (n : Int) := by
      have hnn : ∀ x ∈ xs', 0 ≤ x ∧ x ≤ 4611686018427387904 := fun x hx => hq.1 x (hp.mem_iff.1 hx)
      have h1 : xs' = (xs'.map Int.toNat).map fun (n : Nat) => (n : Int) := by
        rw [List.map_map]
        conv => lhs; rw [← List.map_id xs']
        apply List.map_congr_left
        intro x hx
        have := hnn x hx
        simp only [id, Function.comp]
        omega
      have h2 : M.Fall (xs'.map Int.toNat) := by
        unfold M.Fall
        rw [List.pairwise_map]
        refine hs.imp_of_mem ?_
        intro a b ha hb hab
        have := hnn a ha
        have := hnn b hb
        have hab' : ¬ wrap64 (a - b) < 0 := hab
        unfold wrap64 at hab'
        clear hab
        omega
      have h3 : xs'.map Int.toNat = M.sortD (l0.map Int.toNat) := M.fall_uniq h2 (M.sortD_fall _) ((hp.map _).trans (M.sortD_perm _).symm)
      rw [← h3]
      exact h1
    rw [← hx]
    exact ⟨rfl, Kd.R_mono hR (fun _ hk => .inl hk), hB.trans hB2, ⟨hK.1, fun i hi hn => hK.2 i hi (fun e_ => hn (ho0.1 i e_.symm))⟩⟩
  · cases h
end Go.Proofs.Ytoijcallajegfaa.A
end
section
namespace Go.Proofs.Ytoijcallajegfaa.A
open Go.RowKit Go.Proofs.YtoijcallajegfaaW.PrintWords Go.Proofs.YtoijcallajegfaaW.PrintLast Go.Proofs.YtoijcallajegfaaW.PrintMore
attribute [local go_sem] max2_int min2_int max_two min_two max_three min_three max_four min_four
set_option linter.unusedVariables false
set_option linter.unusedSimpArgs false
def impl_AnglesOf.l0 : Nat → List Int → List (List Int) → Int → Int → Option (List Int)
  | 0, _, _, _, _ => none
  | k + 1, x3, x8, x9, x10 => if x10 < x9 then (if 0 ≤ x10 then (if x10 < (x8.length : Int) then (if x3.length < 17592186044416 then (impl_AnglesOf.l0 k (x3 ++ [((rd_L5 x8 x10).length : Int)]) x8 x9 (wrap64 (x10 + 1))) else (none)) else (none)) else (none)) else ((slices_SortFunc_int_int_73.f x3).bind fun t372 => (some t372))
def impl_AnglesOf.f (k : Nat) (l0_0 : List Int) (l0_1 : List Int) : Option (List Int) := (impl_CornersOf.f k l0_0 l0_1).bind fun t365 => (impl_AnglesOf.l0 k (([] : List Int)) t365 (t365.length : Int) 0)
theorem impl_AnglesOf.mono_l : ∀ k, (∀ y0 y1 y2 y3, LeO (impl_AnglesOf.l0 k y0 y1 y2 y3) (impl_AnglesOf.l0 (k + 1) y0 y1 y2 y3))
  | 0 => fun _ _ _ _ r h => by simp [impl_AnglesOf.l0] at h
  | k + 1 => by
    have ih0 := impl_AnglesOf.mono_l k
    · intro y0 y1 y2 y3
      unfold impl_AnglesOf.l0
      repeat' first|exact ih0 _ _ _ _|exact impl_CornersOf.mono _ _ _|exact lo_|refine LeO.ite ?_ ?_|refine LeO.bind ?_ (fun _ => ?_)
theorem impl_AnglesOf.mono : ∀ a0 a1 k, LeO (impl_AnglesOf.f k a0 a1) (impl_AnglesOf.f (k + 1) a0 a1) := by
  intro a0 a1 k
  have ih0 := impl_AnglesOf.mono_l k
  unfold impl_AnglesOf.f
  repeat' first|exact ih0 _ _ _ _|exact impl_CornersOf.mono _ _ _|exact lo_|refine LeO.ite ?_ ?_|refine LeO.bind ?_ (fun _ => ?_)
set_option maxHeartbeats 8000000 in
set_option maxRecDepth 100000 in
theorem impl_AnglesOf.calls (k : Nat) (A0_0 : Option Addr) (c0_0 : Nat) (l0_0 : List Int) (A0_1 : Option Addr) (c0_1 : Nat) (l0_1 : List Int) (r : List Int) (w : World) (hr0_0 : Kd.C (Kd.int .i64) w A0_0 l0_0.length l0_0) (hc0_0 : l0_0.length ≤ c0_0) (hr0_1 : Kd.C (Kd.int .i64) w A0_1 l0_1.length l0_1) (hc0_1 : l0_1.length ≤ c0_1) (h : impl_AnglesOf.f k l0_0 l0_1 = some r) :
    Calls Try.prog 25 #[.agg #[.slice A0_0 l0_0.length c0_0, .slice A0_1 l0_1.length c0_1]] w fun e w' => ∃ v0_ : Value, e = .returned (v0_) ∧ Kd.R (Kd.int .i64) 3 w' w.heap.size (fun _ => True) v0_ r ∧ Below w.heap.size w w' := by
  have hu33 := Try.underlying33
  have HR0_0 := Aside0.mk hr0_0
  have HC0_0 := Aside0.mk hc0_0
  clear hr0_0 hc0_0
  have HR0_1 := Aside0.mk hr0_1
  have HC0_1 := Aside0.mk hc0_1
  clear hr0_1 hc0_1
  have HB := Aside0.mk (Below.refl w.heap.size w)
  have H := h
  unfold impl_AnglesOf.f at H
  clear h
  obtain ⟨y362, hy362⟩ : ∃ y_ : List Int, y_ = (([] : List Int)) := ⟨_, rfl⟩
  replace H : ((impl_CornersOf.f k l0_0 l0_1).bind fun t365 => (impl_AnglesOf.l0 k y362 t365 (t365.length : Int) 0)) = some r := by first | (rw [hy362]; exact H) | exact H
  have Ny362 := Aside0.mk hy362
  clear hy362
  obtain ⟨t365, A2, H⟩ := bi_ H
  have H' := Aside0.mk H
  clear H
  go_enter Try.func25, Try.ntmps25
  go_wp2_with (first | ((with_reducible refine gate_dst (N := 1) rfl ?_); refine bx_ 1 #[.slice A0_0 l0_0.length c0_0, .slice A0_1 l0_1.length c0_1] 33 ?_; intro gb361 hg w3 hbox hb; have BK361 := Aside0.mk hbox; have GW361 := gw_ w hg; have GE361 := GW361; replace HB := b1_ hb; clear hb hbox hg) | ((with_reducible refine gate_dst (N := 6) rfl ?_); refine Kd.R_lit (Kd.int .i64) _ 3 ?hg (N := 6) ?hd (xs := ([] : List Int)) (inner := []) (ok := fun _ => True) (okp := fun _ => True) ?hr ?hp (fun _ hk => hk) trivial (Below.refl _ _) (Nat.le_refl _) (by simp) ?_; (case hd => rfl); (case hg => rfl); (case hr => first | (go_simp; done) | (go_simp; rfl)); (case hp => exact (Reps.none _ _)); intro v363 w4 ho5 hb hg_ hnew_; clear hg_ hnew_; (first | rw [← Ny362.out] at ho5 | (simp only [Int.reduceToNat] at ho5; rw [← Ny362.out] at ho5)); have HO364 := rl_ w ho5; replace BK361 := bb_ BK361 hb; replace HB := b1_ hb; clear hb ho5; obtain ⟨hcz6_0, hcz6_1, hfz6_0, hfz6_1⟩ := c2_ BK361) | ((with_reducible refine gate_callee (f := 72) rfl ?_); refine gL_ (some 8) Try.func72 #[.agg #[.slice A0_0 l0_0.length c0_0, .slice A0_1 l0_1.length c0_1]] rfl qa_ ?_; (with_reducible refine (impl_CornersOf.calls k _ _ l0_0 _ _ l0_1 t365 _ (cb_ HR0_0) HC0_0.out (cb_ HR0_1) HC0_1.out A2.out).mono ?_); rintro e w7 ⟨v366, rfl, ho0, hb⟩; refine ⟨_, rfl, ?_⟩; have HO367 := Aside0.mk (Kd.S_lower (Kd.S_new' ho0 (Kd.R_lt (rr_ HO364))) (below_size hB_)); replace HO364 := rb_ HO364 hb; replace BK361 := bb_ BK361 hb; replace HB := b1_ hb; clear hb ho0; obtain ⟨Ao8, co8, eo8⟩ := Kd.S_slice HO367.out; subst eo8))
  go_loopg [3, 10] k (fun kq v3 v10 w' => ∃ (x3_1 : List Int) (x10_1 : Int), v10 = .int .i64 x10_1 ∧ Aside0 (impl_AnglesOf.l0 kq x3_1 t365 (t365.length : Int) x10_1 = some r) ∧ Aside0 (kq ≤ k) ∧ Aside0 (Kd.R (Kd.int .i64) 3 w' w.heap.size (fun _ => True) v3 x3_1) ∧ Aside0 (Kd.S (Kd.slice 3 (Kd.int .i64)) 23 w' w.heap.size (fun k_ => some k_ ≠ (v3 : Value).ownBlock) (.slice Ao8 t365.length co8) t365) ∧ Aside0 (w'.heap[gb361]? = some (.cells #[(.slice A0_0 l0_0.length c0_0), (.slice A0_1 l0_1.length c0_1)] 33 (0, 0))) ∧ Aside0 (Below w.heap.size w w'))
  case atStart => exact ⟨(y362), (0), qc_, H', ⟨Nat.le_refl _⟩, ⟨(rr_ HO364)⟩, ⟨(sw_ (Kd.S_mono HO367.out (fun _ hk => hk.2)))⟩, ⟨(kk_ BK361)⟩, ⟨hB_⟩⟩
  case round =>
    clear H'
    obtain ⟨x3_1, x10_1, rfl, HA, HK1, HO_3, HO_8, BK361, HB⟩ := hrel
    cases gk with
    | zero => exact absurd HA.out (by simp [impl_AnglesOf.l0])
    | succ k1 =>
      have H := HA.out
      clear HA
      simp only [impl_AnglesOf.l0] at H
      by_cases c9 : x10_1 < (t365.length : Int)
      · rw [if_pos c9] at H
        have c9b0 := decide_eq_true c9
        clear c9
        have c10 := cp_ H
        replace H := ca_ H
        have c10b0 := decide_eq_true c10
        clear c10
        have c11 := cp_ H
        replace H := ca_ H
        have c11b0 := decide_eq_true c11
        clear c11
        have c12 := cp_ H
        replace H := ca_ H
        have LMc12 := Aside0.mk c12
        clear c12
        obtain ⟨y369, hy369⟩ : ∃ y_ : List Int, y_ = (x3_1 ++ [((rd_L5 t365 x10_1).length : Int)]) := ⟨_, rfl⟩
        replace H : (impl_AnglesOf.l0 k1 y369 t365 (t365.length : Int) (wrap64 (x10_1 + 1))) = some r := by first | (rw [hy369]; exact H) | exact H
        have Ny369 := Aside0.mk hy369
        clear hy369
        have H' := Aside0.mk H
        clear H
        have p368 : 0 ≤ (x10_1 : Int) := of_decide_eq_true qe_
        have q368 : x10_1 < (t365.length : Int) := of_decide_eq_true qe_
        obtain ⟨ad368, A368_0, c368_0, e368, hx368_0, hl368_0, hi368_0⟩ := at_L5 (Kd.S_reads' HO_8.out).2.2 x10_1 p368 q368
        cases e368
        obtain ⟨ce368, hce368, hMe368, hcc368⟩ := Kd.S_get HO_8.out [] x10_1 p368 (by first | exact q368 | exact of_decide_eq_true qe_ | (have e_ := (Kd.S_reads' HO_8.out).1; omega))
        obtain ⟨ve368_0, rfl, ge368_0⟩ := hMe368
        have hv368_0 := hcc368 0 _ rfl
        rw [Nat.add_zero, show ((Kd.slice 3 (Kd.int .i64))).sz = 1 from rfl, Nat.mul_one] at hv368_0
        replace hv368_0 := Option.some.inj (hv368_0.symm.trans hx368_0)
        rw [hv368_0] at ge368_0
        have HL368_0 := Aside0.mk (show Kd.R (Kd.int .i64) 3 _ _ _ _ (rd_L5 t365 x10_1) from ge368_0)
        clear hv368_0 ge368_0
        clear hcc368 hce368
        have HR368_0 := Aside0.mk hi368_0
        have HC368_0 := Aside0.mk hl368_0
        clear hi368_0 hl368_0
        replace p368 := eq_true p368
        replace q368 := eq_true q368
        go_wp2_with (first | ((with_reducible refine gate_builtin (b := .append) (xs := #[.tmp 14, .tmp 17]) rfl ?_); at_builtin; refine Kd.R_append (Kd.int .i64) (w0 := w) w.heap.size rfl (.tmp 14) (.tmp 17) 23 3 (.int .i64 0) 8 rfl Try.underlying23 info3 rfl (by decide) (by omega) u3 x3_1 ((rd_L5 t365 x10_1).length : Int) [.int .i64 ((rd_L5 t365 x10_1).length : Int)] (fun _ => True) (fun _ => False) rfl rfl ?aP (fun _ hk => hk.elim) ?aF ?aO ?aB ?aS ?aL ?_; (case aP => exact rfl); (case aB => exact hB_); (case aF => exact (fun _ _ => trivial)); (case aO => exact (rr_ HO_3)); (case aS => exact (below_size hB_)); (case aL => have := LMc12.out; omega); intro v370 w13 ho hb hg hat; rw [← Ny369.out] at ho; replace HO_8 := Aside0.mk (Kd.S_after (ok := (fun _ => True)) (sw_ (Kd.S_mono HO_8.out (fun _ hk => ⟨trivial, hk⟩))) hg hat); replace BK361 := Aside0.mk (blk_grown (kk_ BK361) hg (Kd.R_ne HO_3.out BK361.out (by decide))); replace HL368_0 := Aside0.mk (Kd.R_after (ok := (fun k_ => some k_ ≠ (.slice (some ad368) t365.length co8 : Value).ownBlock)) (rw_ (Kd.R_mono HL368_0.out (fun _ hk => ⟨hk.2, hk.1⟩))) hg hat); replace HB := Aside0.mk hb; have HO371 := Aside0.mk ho; clear HO_3; clear ho hb hg hat))
        go_roundg k1
        case measure => have := HK1.out; omega
        case rel => exact ⟨(y369), (wrap64 (x10_1 + 1)), qc_, H', ⟨by have := HK1.out; omega⟩, ⟨(rr_ HO371)⟩, ⟨(sw_ (Kd.S_mono HO_8.out (fun _ hk => hk.2)))⟩, ⟨(kk_ BK361)⟩, ⟨hB_⟩⟩
      · rw [if_neg c9] at H
        have c9b0 := decide_eq_false c9
        clear c9
        obtain ⟨t372, A14, H⟩ := bi_ H
        obtain rfl := Option.some.inj H
        obtain ⟨Ao15, co15, eo15⟩ := Kd.R_slice HO_3.out
        subst eo15
        go_wp2_with (first | ((with_reducible refine gate_callee (f := 73) rfl ?_); refine gL_ (some 21) Try.func73 #[.slice Ao15 x3_1.length co15, .func (.func 74) #[] #[]] rfl qa_ ?_; (with_reducible refine (slices_SortFunc_int_int_73.calls (fun k_ => some k_ = (.slice Ao15 x3_1.length co15 : Value).ownBlock) (.slice Ao15 x3_1.length co15) x3_1 t372 w _ ?side1 ?side2 A14.out).mono ?_); (case side1 => repeat (first | (with_reducible first | exact HB.out | apply below_alloc | apply pw_below_drewN | apply below_drew1 | refine below_set ?_ GE361.out) | exact HB.out)); (case side2 => exact Kd.R_tight rfl HO_3.out); rintro e w16 ⟨rfl, hy0, hb, hkp⟩; refine ⟨_, rfl, ?_⟩; replace HO_8 := Aside0.mk (Kd.S_mono (ok' := fun k_ => some k_ ≠ (.slice Ao15 x3_1.length co15 : Value).ownBlock) (Kd.S_keptB (HO_8.out) hkp (fun k_ hk_ hs_ => (hk_) hs_)) (fun k_ hk_ => hk_.1)); replace BK361 := Aside0.mk (blk_kept (kk_ BK361) hkp (fun hs_ => (fun e_ => (Kd.R_ne HO_3.out BK361.out (by decide)) e_) hs_)); replace HO_3 := Aside0.mk (Kd.R_reok rfl hy0 (fun k_ e_ => HO_3.out.1 k_ e_)); replace HB := Aside0.mk hb; clear hb hkp hy0))
        go_ret
        exact ⟨_, qb_, (rr_ HO_3), hB_⟩
end Go.Proofs.Ytoijcallajegfaa.A
end
section
namespace Go.Proofs.Ytoijcallajegfaa.A
open Go.RowKit Go.Proofs.YtoijcallajegfaaW.PrintWords Go.Proofs.YtoijcallajegfaaW.PrintLast Go.Proofs.YtoijcallajegfaaW.PrintMore
attribute [local go_sem] max2_int min2_int max_two min_two max_three min_three max_four min_four
set_option linter.unusedVariables false
set_option linter.unusedSimpArgs false
def impl_StratumOf.l0 : Nat → List Int → List Int → Int → Int → Option (List Int)
  | 0, _, _, _, _ => none
  | k + 1, x3, x8, x9, x10 => if x10 < x9 then (if 0 ≤ x10 then (if x10 < (x8.length : Int) then (if (rd x8 x10) > 1 then (if x3.length < 17592186044416 then (impl_StratumOf.l0 k (x3 ++ [wrap64 ((rd x8 x10) - 1)]) x8 x9 (wrap64 (x10 + 1))) else (none)) else (impl_StratumOf.l0 k x3 x8 x9 (wrap64 (x10 + 1)))) else (none)) else (none)) else (some x3)
def impl_StratumOf.f (k : Nat) (l0_0 : List Int) (l0_1 : List Int) : Option (List Int) := (impl_AnglesOf.f k l0_0 l0_1).bind fun t377 => (impl_StratumOf.l0 k (([] : List Int)) t377 (t377.length : Int) 0)
theorem impl_StratumOf.mono_l : ∀ k, (∀ y0 y1 y2 y3, LeO (impl_StratumOf.l0 k y0 y1 y2 y3) (impl_StratumOf.l0 (k + 1) y0 y1 y2 y3))
  | 0 => fun _ _ _ _ r h => by simp [impl_StratumOf.l0] at h
  | k + 1 => by
    have ih0 := impl_StratumOf.mono_l k
    · intro y0 y1 y2 y3
      unfold impl_StratumOf.l0
      repeat' first|exact ih0 _ _ _ _|exact impl_AnglesOf.mono _ _ _|exact lo_|refine LeO.ite ?_ ?_|refine LeO.bind ?_ (fun _ => ?_)
theorem impl_StratumOf.mono : ∀ a0 a1 k, LeO (impl_StratumOf.f k a0 a1) (impl_StratumOf.f (k + 1) a0 a1) := by
  intro a0 a1 k
  have ih0 := impl_StratumOf.mono_l k
  unfold impl_StratumOf.f
  repeat' first|exact ih0 _ _ _ _|exact impl_AnglesOf.mono _ _ _|exact lo_|refine LeO.ite ?_ ?_|refine LeO.bind ?_ (fun _ => ?_)
set_option maxHeartbeats 8000000 in
set_option maxRecDepth 100000 in
theorem impl_StratumOf.calls (k : Nat) (A0_0 : Option Addr) (c0_0 : Nat) (l0_0 : List Int) (A0_1 : Option Addr) (c0_1 : Nat) (l0_1 : List Int) (r : List Int) (w : World) (hr0_0 : Kd.C (Kd.int .i64) w A0_0 l0_0.length l0_0) (hc0_0 : l0_0.length ≤ c0_0) (hr0_1 : Kd.C (Kd.int .i64) w A0_1 l0_1.length l0_1) (hc0_1 : l0_1.length ≤ c0_1) (h : impl_StratumOf.f k l0_0 l0_1 = some r) :
    Calls Try.prog 26 #[.agg #[.slice A0_0 l0_0.length c0_0, .slice A0_1 l0_1.length c0_1]] w fun e w' => ∃ v0_ : Value, e = .returned (v0_) ∧ Kd.R (Kd.int .i64) 3 w' w.heap.size (fun _ => True) v0_ r ∧ Below w.heap.size w w' := by
  have hu33 := Try.underlying33
  have HR0_0 := Aside0.mk hr0_0
  have HC0_0 := Aside0.mk hc0_0
  clear hr0_0 hc0_0
  have HR0_1 := Aside0.mk hr0_1
  have HC0_1 := Aside0.mk hc0_1
  clear hr0_1 hc0_1
  have HB := Aside0.mk (Below.refl w.heap.size w)
  have H := h
  unfold impl_StratumOf.f at H
  clear h
  obtain ⟨y374, hy374⟩ : ∃ y_ : List Int, y_ = (([] : List Int)) := ⟨_, rfl⟩
  replace H : ((impl_AnglesOf.f k l0_0 l0_1).bind fun t377 => (impl_StratumOf.l0 k y374 t377 (t377.length : Int) 0)) = some r := by first | (rw [hy374]; exact H) | exact H
  have Ny374 := Aside0.mk hy374
  clear hy374
  obtain ⟨t377, A2, H⟩ := bi_ H
  have H' := Aside0.mk H
  clear H
  go_enter Try.func26, Try.ntmps26
  go_wp2_with (first | ((with_reducible refine gate_dst (N := 1) rfl ?_); refine bx_ 1 #[.slice A0_0 l0_0.length c0_0, .slice A0_1 l0_1.length c0_1] 33 ?_; intro gb373 hg w3 hbox hb; have BK373 := Aside0.mk hbox; have GW373 := gw_ w hg; have GE373 := GW373; replace HB := b1_ hb; clear hb hbox hg) | ((with_reducible refine gate_dst (N := 6) rfl ?_); refine Kd.R_lit (Kd.int .i64) _ 3 ?hg (N := 6) ?hd (xs := ([] : List Int)) (inner := []) (ok := fun _ => True) (okp := fun _ => True) ?hr ?hp (fun _ hk => hk) trivial (Below.refl _ _) (Nat.le_refl _) (by simp) ?_; (case hd => rfl); (case hg => rfl); (case hr => first | (go_simp; done) | (go_simp; rfl)); (case hp => exact (Reps.none _ _)); intro v375 w4 ho5 hb hg_ hnew_; clear hg_ hnew_; (first | rw [← Ny374.out] at ho5 | (simp only [Int.reduceToNat] at ho5; rw [← Ny374.out] at ho5)); have HO376 := rl_ w ho5; replace BK373 := bb_ BK373 hb; replace HB := b1_ hb; clear hb ho5; obtain ⟨hcz6_0, hcz6_1, hfz6_0, hfz6_1⟩ := c2_ BK373) | ((with_reducible refine gate_callee (f := 25) rfl ?_); refine gL_ (some 8) Try.func25 #[.agg #[.slice A0_0 l0_0.length c0_0, .slice A0_1 l0_1.length c0_1]] rfl qa_ ?_; (with_reducible refine (impl_AnglesOf.calls k _ _ l0_0 _ _ l0_1 t377 _ (cb_ HR0_0) HC0_0.out (cb_ HR0_1) HC0_1.out A2.out).mono ?_); rintro e w7 ⟨v378, rfl, ho0, hb⟩; refine ⟨_, rfl, ?_⟩; have HO379 := Aside0.mk (Kd.R_lower (Kd.R_new' ho0 (Kd.R_lt (rr_ HO376))) (below_size hB_)); replace HO376 := Aside0.mk (Kd.R_elder' (rr_ HO376) (Kd.R_base ho0) hb); replace BK373 := bb_ BK373 hb; replace HB := b1_ hb; clear hb ho0; obtain ⟨Ao8, co8, eo8⟩ := Kd.R_slice HO379.out; subst eo8))
  go_loopg [3, 10] k (fun kq v3 v10 w' => ∃ (x3_1 : List Int) (x10_1 : Int), v10 = .int .i64 x10_1 ∧ Aside0 (impl_StratumOf.l0 kq x3_1 t377 (t377.length : Int) x10_1 = some r) ∧ Aside0 (kq ≤ k) ∧ Aside0 (Kd.R (Kd.int .i64) 3 w' w.heap.size (fun k_ => some k_ ≠ ((.slice Ao8 t377.length co8) : Value).ownBlock) v3 x3_1) ∧ Aside0 (Kd.R (Kd.int .i64) 3 w' w.heap.size (fun k_ => some k_ ≠ (v3 : Value).ownBlock) (.slice Ao8 t377.length co8) t377) ∧ Aside0 (w'.heap[gb373]? = some (.cells #[(.slice A0_0 l0_0.length c0_0), (.slice A0_1 l0_1.length c0_1)] 33 (0, 0))) ∧ Aside0 (Below w.heap.size w w'))
  case atStart => exact ⟨(y374), (0), qc_, H', ⟨Nat.le_refl _⟩, ⟨(rw_ (Kd.R_mono HO376.out (fun _ hk => hk.2)))⟩, ⟨(rw_ (Kd.R_mono HO379.out (fun _ hk => hk.2)))⟩, ⟨(kk_ BK373)⟩, ⟨hB_⟩⟩
  case round =>
    clear H'
    obtain ⟨x3_1, x10_1, rfl, HA, HK1, HO_3, HO_8, BK373, HB⟩ := hrel
    cases gk with
    | zero => exact absurd HA.out (by simp [impl_StratumOf.l0])
    | succ k1 =>
      have H := HA.out
      clear HA
      simp only [impl_StratumOf.l0] at H
      by_cases c9 : x10_1 < (t377.length : Int)
      · rw [if_pos c9] at H
        have c9b0 := decide_eq_true c9
        clear c9
        have c10 := cp_ H
        replace H := ca_ H
        have c10b0 := decide_eq_true c10
        clear c10
        have c11 := cp_ H
        replace H := ca_ H
        have c11b0 := decide_eq_true c11
        clear c11
        by_cases c12 : (rd t377 x10_1) > 1
        · rw [if_pos c12] at H
          have c12b0 : decide (1 < (rd t377 x10_1)) = true := decide_eq_true c12
          clear c12
          have c13 := cp_ H
          replace H := ca_ H
          have LMc13 := Aside0.mk c13
          clear c13
          obtain ⟨y381, hy381⟩ : ∃ y_ : List Int, y_ = (x3_1 ++ [wrap64 ((rd t377 x10_1) - 1)]) := ⟨_, rfl⟩
          replace H : (impl_StratumOf.l0 k1 y381 t377 (t377.length : Int) (wrap64 (x10_1 + 1))) = some r := by first | (rw [hy381]; exact H) | exact H
          have Ny381 := Aside0.mk hy381
          clear hy381
          have H' := Aside0.mk H
          clear H
          have p380 : 0 ≤ (x10_1 : Int) := of_decide_eq_true qe_
          have q380 : x10_1 < (t377.length : Int) := of_decide_eq_true qe_
          obtain ⟨ad380, e380, hx380_0⟩ := Kd.at_int (Kd.R_reads' HO_8.out).2.2 x10_1 p380 q380
          cases e380
          replace p380 := eq_true p380
          replace q380 := eq_true q380
          go_wp2_with (first | ((with_reducible refine gate_builtin (b := .append) (xs := #[.tmp 16, .tmp 19]) rfl ?_); at_builtin; refine Kd.R_append (Kd.int .i64) (w0 := w) w.heap.size rfl (.tmp 16) (.tmp 19) 23 3 (.int .i64 0) 8 rfl Try.underlying23 info3 rfl (by decide) (by omega) u3 x3_1 (wrap64 ((rd t377 x10_1) - 1)) [.int .i64 (wrap64 ((rd t377 x10_1) - 1))] (fun k_ => some k_ ≠ (.slice (some ad380) t377.length co8 : Value).ownBlock) (fun _ => False) rfl rfl ?aP (fun _ hk => hk.elim) ?aF ?aO ?aB ?aS ?aL ?_; (case aP => exact rfl); (case aB => exact hB_); (case aF => exact (fun k_ hk => Kd.fresh' (Kd.R_lt (rr_ HO_8)) k_ hk)); (case aO => exact (rr_ HO_3)); (case aS => exact (below_size hB_)); (case aL => have := LMc13.out; omega); intro v382 w14 ho hb hg hat; rw [← Ny381.out] at ho; replace HO_8 := Aside0.mk (Kd.R_after (ok := (fun _ => True)) (rw_ (Kd.R_mono HO_8.out (fun _ hk => ⟨trivial, hk⟩))) hg hat); replace BK373 := Aside0.mk (blk_grown (kk_ BK373) hg (Kd.R_ne HO_3.out BK373.out (by decide))); replace HB := Aside0.mk hb; have HO383 := Aside0.mk ho; clear HO_3; clear ho hb hg hat))
          go_roundg k1
          case measure => have := HK1.out; omega
          case rel => exact ⟨(y381), (wrap64 (x10_1 + 1)), qc_, H', ⟨by have := HK1.out; omega⟩, ⟨(rr_ HO383)⟩, ⟨(rw_ (Kd.R_mono HO_8.out (fun _ hk => hk.2)))⟩, ⟨(kk_ BK373)⟩, ⟨hB_⟩⟩
        · rw [if_neg c12] at H
          have c12b0 : decide (1 < (rd t377 x10_1)) = false := decide_eq_false c12
          clear c12
          have H' := Aside0.mk H
          clear H
          have p380 : 0 ≤ (x10_1 : Int) := of_decide_eq_true qe_
          have q380 : x10_1 < (t377.length : Int) := of_decide_eq_true qe_
          obtain ⟨ad380, e380, hx380_0⟩ := Kd.at_int (Kd.R_reads' HO_8.out).2.2 x10_1 p380 q380
          cases e380
          replace p380 := eq_true p380
          replace q380 := eq_true q380
          go_wp2
          go_roundg k1
          case measure => have := HK1.out; omega
          case rel => exact ⟨(x3_1), (wrap64 (x10_1 + 1)), qc_, H', ⟨by have := HK1.out; omega⟩, ⟨(rr_ HO_3)⟩, ⟨(rr_ HO_8)⟩, ⟨(kk_ BK373)⟩, ⟨hB_⟩⟩
      · rw [if_neg c9] at H
        have c9b0 := decide_eq_false c9
        clear c9
        obtain rfl := Option.some.inj H
        go_wp2
        go_ret
        exact ⟨_, qb_, (rw_ (Kd.R_mono HO_3.out (fun _ hk => trivial))), hB_⟩
end Go.Proofs.Ytoijcallajegfaa.A
end
section
namespace Go.Proofs.Ytoijcallajegfaa.A
open Go.RowKit Go.Proofs.YtoijcallajegfaaW.PrintWords Go.Proofs.YtoijcallajegfaaW.PrintLast Go.Proofs.YtoijcallajegfaaW.PrintMore
attribute [local go_sem] max2_int min2_int max_two min_two max_three min_three max_four min_four
set_option linter.unusedVariables false
set_option linter.unusedSimpArgs false
def laws_same.l0 : Nat → List Int → List Int → Int → Int → Option (Bool)
  | 0, _, _, _, _ => none
  | k + 1, x1, x12, x13, x14 => if x14 < x13 then (if 0 ≤ x14 then (if x14 < (x12.length : Int) then (if x14 < (x1.length : Int) then (if (rd x12 x14) = (rd x1 x14) then (laws_same.l0 k x1 x12 x13 (wrap64 (x14 + 1))) else (some false)) else (none)) else (none)) else (none)) else (some true)
def laws_same.f (k : Nat) (l0 : List Int) (l1 : List Int) : Option (Bool) := if (l0.length : Int) = (l1.length : Int) then (laws_same.l0 k l1 l0 (l0.length : Int) 0) else (some false)
theorem laws_same.mono_l : ∀ k, (∀ y0 y1 y2 y3, LeO (laws_same.l0 k y0 y1 y2 y3) (laws_same.l0 (k + 1) y0 y1 y2 y3))
  | 0 => fun _ _ _ _ r h => by simp [laws_same.l0] at h
  | k + 1 => by
    have ih0 := laws_same.mono_l k
    · intro y0 y1 y2 y3
      unfold laws_same.l0
      repeat' first|exact ih0 _ _ _ _|exact lo_|refine LeO.ite ?_ ?_|refine LeO.bind ?_ (fun _ => ?_)
theorem laws_same.mono : ∀ a0 a1 k, LeO (laws_same.f k a0 a1) (laws_same.f (k + 1) a0 a1) := by
  intro a0 a1 k
  have ih0 := laws_same.mono_l k
  unfold laws_same.f
  repeat' first|exact ih0 _ _ _ _|exact lo_|refine LeO.ite ?_ ?_|refine LeO.bind ?_ (fun _ => ?_)
set_option maxHeartbeats 8000000 in
set_option maxRecDepth 100000 in
theorem laws_same.calls (k : Nat) (A0 : Option Addr) (c0 : Nat) (l0 : List Int) (A1 : Option Addr) (c1 : Nat) (l1 : List Int) (r : Bool) (w : World) (hr0 : Kd.C (Kd.int .i64) w A0 l0.length l0) (hc0 : l0.length ≤ c0) (hr1 : Kd.C (Kd.int .i64) w A1 l1.length l1) (hc1 : l1.length ≤ c1) (h : laws_same.f k l0 l1 = some r) :
    Calls Try.prog 24 #[.slice A0 l0.length c0, .slice A1 l1.length c1] w fun e w' => e = .returned (.bool r) ∧ Drawn0 w w' := by
  have HR0 := Aside0.mk hr0
  have HC0 := Aside0.mk hc0
  clear hr0 hc0
  have HR1 := Aside0.mk hr1
  have HC1 := Aside0.mk hc1
  clear hr1 hc1
  have H := h
  unfold laws_same.f at H
  clear h
  by_cases c3 : (l0.length : Int) = (l1.length : Int)
  · rw [if_pos c3] at H
    have c3b0 : ((l0.length : Int) == (l1.length : Int)) = true := beq_iff_eq.mpr c3
    have c3b1 : ((l0.length : Int) != (l1.length : Int)) = false := bne_eq_false_iff_eq.mpr c3
    have c3b2 : (l0.length == l1.length) = true := by first | simpa using c3 | (simp at c3 ⊢; omega)
    clear c3
    have H' := Aside0.mk H
    clear H
    go_enter Try.func24, Try.ntmps24
    go_wp2
    go_loopg [14] k (fun kq v14 w' => ∃ (x14_1 : Int), v14 = .int .i64 x14_1 ∧ Aside0 (laws_same.l0 kq l1 l0 (l0.length : Int) x14_1 = some r) ∧ Aside0 (kq ≤ k) ∧ Drawn0 w w')
    case atStart => exact ⟨(0), qc_, H', ⟨Nat.le_refl _⟩, by repeat (first | exact Drawn0.refl _ | apply Drawn0.step)⟩
    case round =>
      clear H'
      obtain ⟨x14_1, rfl, HA, HK1, ⟨m1, rfl⟩⟩ := hrel
      cases gk with
      | zero => exact absurd HA.out (by simp [laws_same.l0])
      | succ k1 =>
        have H := HA.out
        clear HA
        simp only [laws_same.l0] at H
        by_cases c4 : x14_1 < (l0.length : Int)
        · rw [if_pos c4] at H
          have c4b0 := decide_eq_true c4
          clear c4
          have c5 := cp_ H
          replace H := ca_ H
          have c5b0 := decide_eq_true c5
          clear c5
          have c6 := cp_ H
          replace H := ca_ H
          have c6b0 := decide_eq_true c6
          clear c6
          have c7 := cp_ H
          replace H := ca_ H
          have c7b0 := decide_eq_true c7
          clear c7
          by_cases c8 : (rd l0 x14_1) = (rd l1 x14_1)
          · rw [if_pos c8] at H
            have c8b0 : ((rd l0 x14_1) == (rd l1 x14_1)) = true := beq_iff_eq.mpr c8
            have c8b1 : ((rd l0 x14_1) != (rd l1 x14_1)) = false := bne_eq_false_iff_eq.mpr c8
            clear c8
            have H' := Aside0.mk H
            clear H
            have p781 : 0 ≤ (x14_1 : Int) := of_decide_eq_true qe_
            have q781 : x14_1 < (l0.length : Int) := of_decide_eq_true qe_
            obtain ⟨ad781, e781, hx781_0⟩ := Kd.at_int HR0.out x14_1 p781 q781
            cases e781
            replace p781 := eq_true p781
            replace q781 := eq_true q781
            have p782 : 0 ≤ (x14_1 : Int) := of_decide_eq_true qe_
            have q782 : x14_1 < (l1.length : Int) := of_decide_eq_true qe_
            obtain ⟨ad782, e782, hx782_0⟩ := Kd.at_int HR1.out x14_1 p782 q782
            cases e782
            replace p782 := eq_true p782
            replace q782 := eq_true q782
            go_wp2
            go_roundg k1
            case measure => have := HK1.out; omega
            case rel => exact ⟨(wrap64 (x14_1 + 1)), qc_, H', ⟨by have := HK1.out; omega⟩, by repeat (first | exact Drawn0.refl _ | apply Drawn0.step)⟩
          · rw [if_neg c8] at H
            have c8b0 : ((rd l0 x14_1) == (rd l1 x14_1)) = false := beq_eq_false_iff_ne.mpr c8
            have c8b1 : ((rd l0 x14_1) != (rd l1 x14_1)) = true := bne_iff_ne.mpr c8
            obtain rfl := Option.some.inj H
            have p781 : 0 ≤ (x14_1 : Int) := of_decide_eq_true qe_
            have q781 : x14_1 < (l0.length : Int) := of_decide_eq_true qe_
            obtain ⟨ad781, e781, hx781_0⟩ := Kd.at_int HR0.out x14_1 p781 q781
            cases e781
            replace p781 := eq_true p781
            replace q781 := eq_true q781
            have p782 : 0 ≤ (x14_1 : Int) := of_decide_eq_true qe_
            have q782 : x14_1 < (l1.length : Int) := of_decide_eq_true qe_
            obtain ⟨ad782, e782, hx782_0⟩ := Kd.at_int HR1.out x14_1 p782 q782
            cases e782
            replace p782 := eq_true p782
            replace q782 := eq_true q782
            go_wp2
            go_ret
            exact ⟨qc_, by repeat (first | exact Drawn0.refl _ | apply Drawn0.step)⟩
        · rw [if_neg c4] at H
          have c4b0 := decide_eq_false c4
          clear c4
          obtain rfl := Option.some.inj H
          go_wp2
          go_ret
          exact ⟨qc_, by repeat (first | exact Drawn0.refl _ | apply Drawn0.step)⟩
  · rw [if_neg c3] at H
    have c3b0 : ((l0.length : Int) == (l1.length : Int)) = false := beq_eq_false_iff_ne.mpr c3
    have c3b1 : ((l0.length : Int) != (l1.length : Int)) = true := bne_iff_ne.mpr c3
    have c3b2 : (l0.length == l1.length) = false := by first | simpa using c3 | (simp at c3 ⊢; omega)
    obtain rfl := Option.some.inj H
    go_enter Try.func24, Try.ntmps24
    go_wp2
    go_ret
    exact ⟨qc_, by repeat (first | exact Drawn0.refl _ | apply Drawn0.step)⟩
end Go.Proofs.Ytoijcallajegfaa.A
end
section
namespace Go.Proofs.Ytoijcallajegfaa.A
open Go.RowKit Go.Proofs.YtoijcallajegfaaW.PrintWords Go.Proofs.YtoijcallajegfaaW.PrintLast Go.Proofs.YtoijcallajegfaaW.PrintMore
attribute [local go_sem] max2_int min2_int max_two min_two max_three min_three max_four min_four
set_option linter.unusedVariables false
set_option linter.unusedSimpArgs false
def impl_SameSurface.f (k : Nat) (l0_0 : List Int) (l0_1 : List Int) (l1_0 : List Int) (l1_1 : List Int) : Option (Bool) := (impl_SameList.f k l0_0 l1_0).bind fun t261 => (if t261 = true then ((impl_SameList.f k l0_1 l1_1).bind fun t262 => (some t262)) else (some false))
theorem impl_SameSurface.mono : ∀ a0 a1 a2 a3 k, LeO (impl_SameSurface.f k a0 a1 a2 a3) (impl_SameSurface.f (k + 1) a0 a1 a2 a3) := by
  intro a0 a1 a2 a3 k
  unfold impl_SameSurface.f
  repeat' first|exact impl_SameList.mono _ _ _|exact lo_|refine LeO.ite ?_ ?_|refine LeO.bind ?_ (fun _ => ?_)
set_option maxHeartbeats 8000000 in
set_option maxRecDepth 100000 in
theorem impl_SameSurface.calls (k : Nat) (A0_0 : Option Addr) (c0_0 : Nat) (l0_0 : List Int) (A0_1 : Option Addr) (c0_1 : Nat) (l0_1 : List Int) (A1_0 : Option Addr) (c1_0 : Nat) (l1_0 : List Int) (A1_1 : Option Addr) (c1_1 : Nat) (l1_1 : List Int) (r : Bool) (w : World) (hr0_0 : Kd.C (Kd.int .i64) w A0_0 l0_0.length l0_0) (hc0_0 : l0_0.length ≤ c0_0) (hr0_1 : Kd.C (Kd.int .i64) w A0_1 l0_1.length l0_1) (hc0_1 : l0_1.length ≤ c0_1) (hr1_0 : Kd.C (Kd.int .i64) w A1_0 l1_0.length l1_0) (hc1_0 : l1_0.length ≤ c1_0) (hr1_1 : Kd.C (Kd.int .i64) w A1_1 l1_1.length l1_1) (hc1_1 : l1_1.length ≤ c1_1) (h : impl_SameSurface.f k l0_0 l0_1 l1_0 l1_1 = some r) :
    Calls Try.prog 18 #[.agg #[.slice A0_0 l0_0.length c0_0, .slice A0_1 l0_1.length c0_1], .agg #[.slice A1_0 l1_0.length c1_0, .slice A1_1 l1_1.length c1_1]] w fun e w' => e = .returned (.bool r) ∧ Below w.heap.size w w' := by
  have hu33 := Try.underlying33
  have HR0_0 := Aside0.mk hr0_0
  have HC0_0 := Aside0.mk hc0_0
  clear hr0_0 hc0_0
  have HR0_1 := Aside0.mk hr0_1
  have HC0_1 := Aside0.mk hc0_1
  clear hr0_1 hc0_1
  have HR1_0 := Aside0.mk hr1_0
  have HC1_0 := Aside0.mk hc1_0
  clear hr1_0 hc1_0
  have HR1_1 := Aside0.mk hr1_1
  have HC1_1 := Aside0.mk hc1_1
  clear hr1_1 hc1_1
  have HB := Aside0.mk (Below.refl w.heap.size w)
  have H := h
  unfold impl_SameSurface.f at H
  clear h
  obtain ⟨t261, A3, H⟩ := bi_ H
  by_cases c4 : t261 = true
  · subst c4
    rw [if_pos rfl] at H
    obtain ⟨t262, A5, H⟩ := bi_ H
    obtain rfl := Option.some.inj H
    go_enter Try.func18, Try.ntmps18
    go_wp2_with (first | ((with_reducible refine gate_dst (N := 2) rfl ?_); refine bx_ 2 #[.slice A0_0 l0_0.length c0_0, .slice A0_1 l0_1.length c0_1] 33 ?_; intro gb259 hg w6 hbox hb; have BK259 := Aside0.mk hbox; have GW259 := gw_ w hg; have GE259 := GW259; replace HB := b1_ hb; clear hb hbox hg) | ((with_reducible refine gate_dst (N := 3) rfl ?_); refine bx_ 3 #[.slice A1_0 l1_0.length c1_0, .slice A1_1 l1_1.length c1_1] 33 ?_; intro gb260 hg w7 hbox hb; have BK260 := Aside0.mk hbox; have GW260 := gw_ w hg; have GE260 := GW260; replace HB := b1_ hb; have NB259_260 := gN_ BK259 hg; have NB260_259 := gP_ BK259 hg; replace BK259 := bb_ BK259 hb; clear hb hbox hg; have hnb8 := NB259_260.out; have hnc8 := NB260_259.out; obtain ⟨hcz9_0, hcz9_1, hfz9_0, hfz9_1⟩ := c2_ BK259; obtain ⟨hcz10_0, hcz10_1, hfz10_0, hfz10_1⟩ := c2_ BK260) | ((with_reducible refine gate_callee (f := 56) rfl ?_); refine gL_ (some 9) Try.func56 #[.slice A0_0 l0_0.length c0_0, .slice A1_0 l1_0.length c1_0] rfl qa_ ?_; (with_reducible refine (impl_SameList.calls k _ _ l0_0 _ _ l1_0 true _ (cb_ HR0_0) HC0_0.out (cb_ HR1_0) HC1_0.out A3.out).mono ?_); rintro e w' ⟨rfl, ⟨nd, rfl⟩⟩; refine ⟨_, rfl, ?_⟩) | (go_at_call 56; (with_reducible refine (impl_SameList.calls k _ _ l0_1 _ _ l1_1 t262 _ (cw_ (Kd.C_below HR0_1.out hB_)) HC0_1.out (cw_ (Kd.C_below HR1_1.out hB_)) HC1_1.out A5.out).mono ?_); rintro e w' ⟨rfl, ⟨nd, rfl⟩⟩))
    go_ret
    exact ⟨qb_, hB_⟩
  · replace c4 := Bool.eq_false_iff.mpr c4
    subst c4
    have H1 : (some false) = some r := by rw [if_neg (show ¬ (false = true) by decide)] at H; exact H
    clear H
    have H := H1
    clear H1
    obtain rfl := Option.some.inj H
    go_enter Try.func18, Try.ntmps18
    go_wp2_with (first | ((with_reducible refine gate_dst (N := 2) rfl ?_); refine bx_ 2 #[.slice A0_0 l0_0.length c0_0, .slice A0_1 l0_1.length c0_1] 33 ?_; intro gb259 hg w11 hbox hb; have BK259 := Aside0.mk hbox; have GW259 := gw_ w hg; have GE259 := GW259; replace HB := b1_ hb; clear hb hbox hg) | ((with_reducible refine gate_dst (N := 3) rfl ?_); refine bx_ 3 #[.slice A1_0 l1_0.length c1_0, .slice A1_1 l1_1.length c1_1] 33 ?_; intro gb260 hg w12 hbox hb; have BK260 := Aside0.mk hbox; have GW260 := gw_ w hg; have GE260 := GW260; replace HB := b1_ hb; have NB259_260 := gN_ BK259 hg; have NB260_259 := gP_ BK259 hg; replace BK259 := bb_ BK259 hb; clear hb hbox hg; have hnb13 := NB259_260.out; have hnc13 := NB260_259.out; obtain ⟨hcz14_0, hcz14_1, hfz14_0, hfz14_1⟩ := c2_ BK259; obtain ⟨hcz15_0, hcz15_1, hfz15_0, hfz15_1⟩ := c2_ BK260) | ((with_reducible refine gate_callee (f := 56) rfl ?_); refine gL_ (some 9) Try.func56 #[.slice A0_0 l0_0.length c0_0, .slice A1_0 l1_0.length c1_0] rfl qa_ ?_; (with_reducible refine (impl_SameList.calls k _ _ l0_0 _ _ l1_0 false _ (cb_ HR0_0) HC0_0.out (cb_ HR1_0) HC1_0.out A3.out).mono ?_); rintro e w' ⟨rfl, ⟨nd, rfl⟩⟩; refine ⟨_, rfl, ?_⟩))
    go_ret
    exact ⟨qb_, hB_⟩
end Go.Proofs.Ytoijcallajegfaa.A
end
section
/- The place of a surface in a list: the walk of the program's look-up. No conditions. -/
namespace Go.Proofs.Ytoijcallajegfaa.M
set_option linter.unusedVariables false
set_option linter.unusedSimpArgs false
open Go Go.RowKit Go.Proofs.YtoijcallajegfaaW.PrintWords Go.Proofs.YtoijcallajegfaaW.PrintLast Go.Proofs.YtoijcallajegfaaW.PrintMore Go.Proofs.Ytoijcallajegfaa.A
def idxS (k : Nat) (r u : List Int) : List S33 → Nat → Option Int
  | [], _ => some (-1)
  | x :: xs, i => (impl_SameSurface.f k x.f0 x.f1 r u).bind fun b => if b = true then some (i : Int) else idxS k r u xs (i + 1)
def indexO (k : Nat) (l : List S33) (r u : List Int) : Option Int := if l.length < 4611686018427387904 then idxS k r u l 0 else none
set_option maxHeartbeats 8000000 in
set_option maxRecDepth 100000 in
theorem index_closure (k : Nat) (gs : Nat) (A0 : Option Addr) (c0 : Nat) (l0 : List Int) (A1 : Option Addr) (c1 : Nat) (l1 : List Int) (B0 : Option Addr) (d0 : Nat) (r : List Int) (B1 : Option Addr) (d1 : Nat) (u : List Int) (b : Bool) (w : World)
    (h0 : Kd.C (Kd.int .i64) w A0 l0.length l0) (g0 : l0.length ≤ c0) (h1 : Kd.C (Kd.int .i64) w A1 l1.length l1) (g1 : l1.length ≤ c1) (h2 : Kd.C (Kd.int .i64) w B0 r.length r) (g2 : r.length ≤ d0) (h3 : Kd.C (Kd.int .i64) w B1 u.length u) (g3 : u.length ≤ d1)
    (hs : w.heap[gs]? = some (.cells #[.slice B0 r.length d0, .slice B1 u.length d1] 33 (0, 0))) (h : impl_SameSurface.f k l0 l1 r u = some b) :
    Calls Try.prog 165 #[.agg #[.slice A0 l0.length c0, .slice A1 l1.length c1], .pointer (some ⟨gs, 0, none⟩)] w fun e w' => e = .returned (.bool b) ∧ Below w.heap.size w w' := by
  have hu := Try.underlying33
  have H0 := Aside0.mk h0; have H1 := Aside0.mk h1; have H2 := Aside0.mk h2; have H3 := Aside0.mk h3
  have G0 := Aside0.mk g0; have G1 := Aside0.mk g1; have G2 := Aside0.mk g2; have G3 := Aside0.mk g3
  have BS := Aside0.mk hs; have HA := Aside0.mk h
  clear h0 h1 h2 h3 g0 g1 g2 g3 hs h
  have HB := Aside0.mk (Below.refl w.heap.size w)
  go_enter Try.func165, Try.ntmps165
  go_wp2_with (first | ((with_reducible refine gate_dst (N := 2) rfl ?_); refine bx_ 2 #[.slice A0 l0.length c0, .slice A1 l1.length c1] 33 ?_; intro gb hg w2 hbox hb; have BK := Aside0.mk hbox; have BT := bb_ BS hb; replace HB := b1_ hb; clear hb hbox hg; obtain ⟨hcz0, hcz1, hfz0, hfz1⟩ := c2_ BK; obtain ⟨hcy0, hcy1, hfy0, hfy1⟩ := c2_ BT) | ((with_reducible refine gate_callee (f := 18) rfl ?_); refine gL_ (some 6) Try.func18 #[.agg #[.slice A0 l0.length c0, .slice A1 l1.length c1], .agg #[.slice B0 r.length d0, .slice B1 u.length d1]] rfl qa_ ?_; (with_reducible refine (impl_SameSurface.calls k _ _ l0 _ _ l1 _ _ r _ _ u b _ (cb_ H0) G0.out (cb_ H1) G1.out (cb_ H2) G2.out (cb_ H3) G3.out HA.out).mono ?_); rintro e w3 ⟨rfl, hb⟩; refine ⟨_, rfl, ?_⟩; replace HB := b1_ hb; clear hb))
  go_ret
  exact ⟨qb_, hB_⟩
set_option maxHeartbeats 8000000 in
set_option maxRecDepth 100000 in
theorem index_main (k : Nat) (gf : Nat) (lb : Array Value) (eg : ∀ args w, (callFunc gf args).run Try.prog w = .ok (.enter gf args) w) (A0 : Option Addr) (c0 : Nat) (l0 : List S33) (r u : List Int) (j : Int) (w : World) (hr0 : Kd.C k33 w A0 l0.length l0) (hc0 : l0.length ≤ c0) (h : indexO k l0 r u = some j)
    (hcl : ∀ (A0 : Option Addr) (c0 : Nat) (l0 : List Int) (A1 : Option Addr) (c1 : Nat) (l1 : List Int) (b : Bool) (w1 : World), Below w.heap.size w w1 → Kd.C (Kd.int .i64) w1 A0 l0.length l0 → l0.length ≤ c0 → Kd.C (Kd.int .i64) w1 A1 l1.length l1 → l1.length ≤ c1 → impl_SameSurface.f k l0 l1 r u = some b → Calls Try.prog gf (#[.agg #[.slice A0 l0.length c0, .slice A1 l1.length c1]] ++ lb) w1 fun e w' => e = .returned (.bool b) ∧ Below w1.heap.size w1 w') :
    Calls Try.prog 132 #[.slice A0 l0.length c0, .func (.func gf) #[] lb] w fun e w' => e = .returned (.int .i64 j) ∧ Below w.heap.size w w' := by
  have hu := Try.underlying33
  have HR0 := Aside0.mk hr0
  have HC0 := Aside0.mk hc0
  have HB := Aside0.mk (Below.refl w.heap.size w)
  have hsm : l0.length < 4611686018427387904 := by
    unfold indexO at h
    split at h
    · assumption
    · cases h
  have H' : Aside0 (idxS k r u (l0.drop 0) 0 = some j) := ⟨by
    unfold indexO at h
    rw [if_pos hsm] at h
    exact h⟩
  clear hr0 hc0 h
  replace hcl := Aside0.mk hcl
  go_enter Try.func132, Try.ntmps132
  go_wp2
  go_loopg [5, 8] l0.length (fun gg _ s8 wr => ∃ kk : Nat, s8 = .int .i64 kk ∧ Aside0 (kk ≤ l0.length) ∧ Aside0 (l0.length - kk ≤ gg) ∧ Aside0 (idxS k r u (l0.drop kk) kk = some j) ∧ Aside0 (Below w.heap.size w wr))
  case atStart => exact ⟨0, rfl, ⟨Nat.zero_le _⟩, ⟨by omega⟩, H', ⟨by repeat (first | (with_reducible first | exact HB.out | apply below_alloc | apply pw_below_drewN | apply below_drew1) | exact HB.out)⟩⟩
  case round =>
    clear H' HB
    obtain ⟨kk, rfl, HK, HG, HA, HB⟩ := hrel
    by_cases hlt : kk < l0.length
    · have hltz : (kk : Int) < (l0.length : Int) := by omega
      have h0z : (0 : Int) ≤ (kk : Int) := Int.natCast_nonneg kk
      have H := HA.out
      have hdr : l0.drop kk = rd_T33 l0 (kk : Int) :: l0.drop (kk + 1) := by
        rw [List.drop_eq_getElem_cons hlt]
        congr 1
        simp [rd_T33, hlt]
      rw [hdr] at H
      simp only [idxS] at H
      obtain ⟨b, Hb, H⟩ := bi_ H
      obtain ⟨ad1, A1, c1, A2, c2, e1, hx1, hx2, hl1, hi1, hl2, hi2⟩ := at_T33 (Kd.C_below HR0.out HB.out) (kk : Int) h0z hltz
      cases e1
      rw [show ((kk : Int)).toNat = kk from rfl] at hx1 hx2
      have HI1 := Aside0.mk hi1
      have HI2 := Aside0.mk hi2
      have HL1 := Aside0.mk hl1
      have HL2 := Aside0.mk hl2
      clear hi1 hi2 hl1 hl2
      cases b with
      | true =>
        rw [if_pos rfl] at H
        obtain rfl := Option.some.inj H
        clear H
        go_wp2_with (fail)
        refine (hcl.out _ _ (rd_T33 l0 (kk : Int)).f0 _ _ (rd_T33 l0 (kk : Int)).f1 true wr HB.out HI1.out HL1.out HI2.out HL2.out Hb.out).mono ?_
        rintro e w2 ⟨rfl, hb⟩
        have HB2 := Aside0.mk (below_step HB.out hb)
        clear hb
        go_wp2
        go_ret
        exact ⟨rfl, by repeat (first | (with_reducible first | exact HB2.out | apply below_alloc | apply pw_below_drewN | apply below_drew1) | exact HB2.out)⟩
      | false =>
        rw [if_neg (by decide)] at H
        have H2 := Aside0.mk H
        clear H
        go_wp2_with (fail)
        refine (hcl.out _ _ (rd_T33 l0 (kk : Int)).f0 _ _ (rd_T33 l0 (kk : Int)).f1 false wr HB.out HI1.out HL1.out HI2.out HL2.out Hb.out).mono ?_
        rintro e w2 ⟨rfl, hb⟩
        have HB2 := Aside0.mk (below_step HB.out hb)
        clear hb
        go_wp2
        go_roundg (l0.length - (kk + 1))
        case measure => have := HG.out; omega
        case rel => exact ⟨kk + 1, by congr 1, ⟨by omega⟩, ⟨by omega⟩, H2, ⟨by repeat (first | (with_reducible first | exact HB2.out | apply below_alloc | apply pw_below_drewN | apply below_drew1) | exact HB2.out)⟩⟩
    · have hltz : ¬ (kk : Int) < (l0.length : Int) := by omega
      have H := HA.out
      rw [List.drop_eq_nil_of_le (by omega)] at H
      simp only [idxS] at H
      obtain rfl := Option.some.inj H
      clear H
      go_wp2
      go_ret
      exact ⟨rfl, by repeat (first | (with_reducible first | exact HB.out | apply below_alloc | apply pw_below_drewN | apply below_drew1) | exact HB.out)⟩
set_option maxHeartbeats 8000000 in
set_option maxRecDepth 100000 in
theorem index_calls (k : Nat) (gO : Nat) (A0 : Option Addr) (c0 : Nat) (l0 : List S33) (v1 v2 v3 v4 : Value) (B0 : Option Addr) (d0 : Nat) (r : List Int) (B1 : Option Addr) (d1 : Nat) (u : List Int) (j : Int) (w : World) (hr0 : Kd.C k33 w A0 l0.length l0) (hc0 : l0.length ≤ c0) (h2 : Kd.C (Kd.int .i64) w B0 r.length r) (g2 : r.length ≤ d0) (h3 : Kd.C (Kd.int .i64) w B1 u.length u) (g3 : u.length ≤ d1)
    (hO : w.heap[gO]? = some (.cells #[.slice A0 l0.length c0, v1, v2, v3, v4] 97 (0, 0))) (h : indexO k l0 r u = some j) :
    Calls Try.prog 133 #[.pointer (some ⟨gO, 0, none⟩), .agg #[.slice B0 r.length d0, .slice B1 u.length d1]] w fun e w' => e = .returned (.int .i64 j) ∧ Below w.heap.size w w' := by
  have hu := Try.underlying33
  have H0 := Aside0.mk hr0; have H2 := Aside0.mk h2; have H3 := Aside0.mk h3
  have G0 := Aside0.mk hc0; have G2 := Aside0.mk g2; have G3 := Aside0.mk g3
  have BO := Aside0.mk hO; have HA := Aside0.mk h
  clear hr0 h2 h3 hc0 g2 g3 hO h
  have HB := Aside0.mk (Below.refl w.heap.size w)
  go_enter Try.func133, Try.ntmps133
  go_wp2_with (first | ((with_reducible refine gate_dst (N := 3) rfl ?_); refine bx_ 3 #[.slice B0 r.length d0, .slice B1 u.length d1] 33 ?_; intro gb hg w2 hbox hb; have BK := Aside0.mk hbox; have BP := bb_ BO hb; replace HB := b1_ hb; clear hb hbox hg; have hco0 : w2.cell? ⟨gO, 0, none⟩ = some (.slice A0 l0.length c0) := (blk_cell BP.out 0).trans rfl; have hfo0 := blk_frozen BP.out 0) | ((with_reducible refine gate_callee (f := 132) rfl ?_); refine gL_ (some 10) Try.func132 #[.slice A0 l0.length c0, .func (.func 165) #[] #[.pointer (some ⟨gb, 0, none⟩)]] rfl qa_ ?_; refine (index_main k 165 #[.pointer (some ⟨gb, 0, none⟩)] (fun args w => enters_ Try.func165 (by kernel_rfl) rfl args w) _ _ l0 r u j _ (cb_ H0) G0.out HA.out (fun A0_ c0_ l0_ A1_ c1_ l1_ b_ w1_ hw_ q0_ q1_ q2_ q3_ q4_ => index_closure k gb A0_ c0_ l0_ A1_ c1_ l1_ B0 d0 r B1 d1 u b_ w1_ q0_ q1_ q2_ q3_ (Kd.C_below (cb_ H2) hw_) G2.out (Kd.C_below (cb_ H3) hw_) G3.out (blk_below BK.out hw_) q4_)).mono ?_; rintro e w3 ⟨rfl, hb⟩; refine ⟨_, rfl, ?_⟩; replace HB := b1_ hb; clear hb))
  go_ret
  exact ⟨qb_, hB_⟩
end Go.Proofs.Ytoijcallajegfaa.M
end
section
/- A map of two keys, as it is filled: look-ups and stores. No conditions. -/
namespace Go.Proofs.Ytoijcallajegfaa.M
set_option linter.unusedVariables false
set_option linter.unusedSimpArgs false
open Go Go.RowKit Go.Proofs.YtoijcallajegfaaW.PrintWords Go.Proofs.YtoijcallajegfaaW.PrintLast Go.Proofs.YtoijcallajegfaaW.PrintMore Go.Proofs.Ytoijcallajegfaa.A Go.MapKept
def mapO (n : Nat) (vT vS : Value) : Obj := .map ((#[⟨.int .u8 84, vT, 0⟩, ⟨.int .u8 83, vS, 1⟩] : Array MapEntry).extract 0 n) n
def mapV (n c : Nat) (vT vS : Value) : Value := if c = 84 then (if 1 ≤ n then vT else .slice none 0 0) else if 2 ≤ n then vS else .slice none 0 0
theorem key_u8 (c : Int) : IsKey (.int .u8) (.int .u8 c) := rfl
theorem map_look {w : World} {b : Nat} {es : Array MapEntry} {c : Nat} (hb : w.heap[b]? = some (.map es c)) (kk : Int) (r : Option (Nat × Value)) (hf : Instr.findNow (.int .u8) (.int .u8 kk) es.toList 0 = some r) :
    (Instr.lookup 95 (.map (some b)) (.int .u8 kk) false).run Try.prog w = .ok (match r with | some x => x.2 | none => .slice none 0 0) w := by
  have ht := Try.underlying95
  have hk : Try.prog.underlying 5 = some (.int .u8) := Try.underlying5
  have h1 := Go.MapKept.run_findKey (P := Try.prog) (w := w) hk hf
  have hz : (zeroValue 23).run Try.prog w = .ok (.slice none 0 0) w := by kernel_rfl
  cases r with
  | none => simp [Instr.lookup, run_underlying ht, Go.MapKept.run_getObj_map hb, Go.MapKept.run_checkKey hk (key_u8 kk), h1, hz, Result.andThen]
  | some x => simp [Instr.lookup, run_underlying ht, Go.MapKept.run_getObj_map hb, Go.MapKept.run_checkKey hk (key_u8 kk), h1, hz, Result.andThen]
theorem map_push {w : World} {b : Nat} {es : Array MapEntry} {c : Nat} (hb : w.heap[b]? = some (.map es c)) (kk : Int) (hf : Instr.findNow (.int .u8) (.int .u8 kk) es.toList 0 = some none) (v : Value) :
    (Instr.mapUpdate 95 (.map (some b)) (.int .u8 kk) v).run Try.prog w = .ok () { w with heap := w.heap.setIfInBounds b (.map (es.push ⟨.int .u8 kk, v, c⟩) (c + 1)) } := by
  have ht := Try.underlying95
  have hk : Try.prog.underlying 5 = some (.int .u8) := Try.underlying5
  have h1 := Go.MapKept.run_findKey (P := Try.prog) (w := w) hk hf
  simp [Instr.mapUpdate, run_underlying ht, Go.MapKept.run_getObj_map hb, Go.MapKept.run_checkKey hk (key_u8 kk), h1, Go.MapKept.run_setObj_map _ hb, Result.andThen]
theorem map_turn {w : World} {b : Nat} {es : Array MapEntry} {c : Nat} (hb : w.heap[b]? = some (.map es c)) (kk : Int) (i : Nat) (u v : Value) (hf : Instr.findNow (.int .u8) (.int .u8 kk) es.toList 0 = some (some (i, u))) (hi : (es[i]?.map (·.key)) = some (.int .u8 kk)) :
    (Instr.mapUpdate 95 (.map (some b)) (.int .u8 kk) v).run Try.prog w = .ok () { w with heap := w.heap.setIfInBounds b (.map (es.modify i fun e => { e with key := .int .u8 kk, val := v }) c) } := by
  have ht := Try.underlying95
  have hk : Try.prog.underlying 5 = some (.int .u8) := Try.underlying5
  have h1 := Go.MapKept.run_findKey (P := Try.prog) (w := w) hk hf
  have h2 := Go.MapKept.run_keyThatStays (P := Try.prog) (w := w) (key_u8 kk)
  simp [Instr.mapUpdate, run_underlying ht, Go.MapKept.run_getObj_map hb, Go.MapKept.run_checkKey hk (key_u8 kk), h1, hi, h2, Go.MapKept.run_setObj_map _ hb, Result.andThen]
def setMap (w : World) (b n : Nat) (vT vS : Value) : World := { w with heap := w.heap.setIfInBounds b (mapO n vT vS) }
theorem look_T {w : World} {b n : Nat} {vT vS : Value} (hb : w.heap[b]? = some (mapO n vT vS)) (hn : n = 0 ∨ n = 1 ∨ n = 2) : (Instr.lookup 95 (.map (some b)) (.int .u8 84) false).run Try.prog w = .ok (mapV n 84 vT vS) w := by
  rcases hn with rfl | rfl | rfl
  · exact map_look hb 84 none rfl
  · exact map_look hb 84 (some (0, vT)) rfl
  · exact map_look hb 84 (some (0, vT)) rfl
theorem look_S {w : World} {b n : Nat} {vT vS : Value} (hb : w.heap[b]? = some (mapO n vT vS)) (hn : n = 0 ∨ n = 1 ∨ n = 2) : (Instr.lookup 95 (.map (some b)) (.int .u8 83) false).run Try.prog w = .ok (mapV n 83 vT vS) w := by
  rcases hn with rfl | rfl | rfl
  · exact map_look hb 83 none rfl
  · exact map_look hb 83 none rfl
  · exact map_look hb 83 (some (1, vS)) rfl
theorem put_T {w : World} {b n : Nat} {vT vS : Value} (hb : w.heap[b]? = some (mapO n vT vS)) (hn : n = 0 ∨ n = 2) (v : Value) : (Instr.mapUpdate 95 (.map (some b)) (.int .u8 84) v).run Try.prog w = .ok () (setMap w b (max n 1) v vS) := by
  rcases hn with rfl | rfl
  · exact map_push hb 84 rfl v
  · exact map_turn hb 84 0 vT v rfl rfl
theorem put_S {w : World} {b n : Nat} {vT vS : Value} (hb : w.heap[b]? = some (mapO n vT vS)) (hn : n = 1 ∨ n = 2) (v : Value) : (Instr.mapUpdate 95 (.map (some b)) (.int .u8 83) v).run Try.prog w = .ok () (setMap w b 2 vT v) := by
  rcases hn with rfl | rfl
  · exact map_push hb 83 rfl v
  · exact map_turn hb 83 1 vS v rfl rfl
theorem setMap_at {w : World} {b n : Nat} {o : Obj} (hb : w.heap[b]? = some o) (vT vS : Value) : (setMap w b n vT vS).heap[b]? = some (mapO n vT vS) := by
  have := (Array.getElem?_eq_some_iff.1 hb).1
  simp [setMap, this]
theorem setMap_far {w : World} {b n : Nat} (vT vS : Value) {g : Nat} (h : g ≠ b) : (setMap w b n vT vS).heap[g]? = w.heap[g]? := by
  simp only [setMap, Array.getElem?_setIfInBounds]
  rw [if_neg (fun e => h e.symm)]
theorem setMap_grown {w : World} {b n : Nat} (vT vS : Value) : w.grownBy (setMap w b n vT vS) (some b) :=
  ⟨rfl, rfl, rfl, by simp [setMap], fun i _ hi => setMap_far vT vS (fun e => hi (by rw [e]))⟩
theorem setMap_below {w0 w : World} {b n : Nat} (vT vS : Value) (hB : Below w0.heap.size w0 w) (hb : w0.heap.size ≤ b) : Below w0.heap.size w0 (setMap w b n vT vS) :=
  hB.grown (setMap_grown vT vS) hB.size (fun k e => by injection e with e; omega)
end Go.Proofs.Ytoijcallajegfaa.M
end
section
namespace Go.Proofs.Ytoijcallajegfaa.A
open Go.RowKit Go.Proofs.YtoijcallajegfaaW.PrintWords Go.Proofs.YtoijcallajegfaaW.PrintLast Go.Proofs.YtoijcallajegfaaW.PrintMore
attribute [local go_sem] max2_int min2_int max_two min_two max_three min_three max_four min_four
set_option linter.unusedVariables false
set_option linter.unusedSimpArgs false
def impl_ShearSurface.f (k : Nat) (l0_0 : List Int) (l0_1 : List Int) : Option (List Int × List Int × Bool) := (impl_SurfaceOk.f k l0_0 l0_1).bind fun t676 => (if t676 = true then ((impl_copyInts.f l0_0).bind fun t677 => ((impl_InversePerm.f k l0_0).bind fun t680 => ((impl_ThenPerm.f k t680 l0_1).bind fun t683 => (some (t677, t683, true))))) else (some (([] : List Int), ([] : List Int), false)))
theorem impl_ShearSurface.mono : ∀ a0 a1 k, LeO (impl_ShearSurface.f k a0 a1) (impl_ShearSurface.f (k + 1) a0 a1) := by
  intro a0 a1 k
  unfold impl_ShearSurface.f
  repeat' first|exact impl_InversePerm.mono _ _|exact impl_SurfaceOk.mono _ _ _|exact impl_ThenPerm.mono _ _ _|exact lo_|refine LeO.ite ?_ ?_|refine LeO.bind ?_ (fun _ => ?_)
def impl_ShearSurface.T3 : Bool × List (List Nat × List Nat) := (true, [([], []), ([0], [0]), ([1], [1]), ([], []), ([3], [3]), ([4, 2], [4]), ([], []), ([6], [6]), ([5, 7, 5], [5, 7]), ([2, 8], [2, 8]), ([9, 8, 0, 1, 2, 3, 4, 5, 6, 7, 8, 9], [9]), ([10, 0, 1, 2, 3, 4, 5, 6, 7, 8, 9, 10], [])])
def impl_ShearSurface.B3 : List Nat := [0, 1, 3, 0, 8, 31, 0, 64, 255, 511, 1023, 2047]
theorem impl_ShearSurface.tab3 : rtab .any (opsOf Try.f114 3) = impl_ShearSurface.T3 := by kernel_rfl
theorem impl_ShearSurface.bits3 : waitsOk impl_ShearSurface.T3.2 impl_ShearSurface.B3 = true := by kernel_rfl
set_option maxHeartbeats 8000000 in
set_option maxRecDepth 100000 in
theorem impl_ShearSurface.calls (k : Nat) (A0_0 : Option Addr) (c0_0 : Nat) (l0_0 : List Int) (A0_1 : Option Addr) (c0_1 : Nat) (l0_1 : List Int) (r1 : List Int) (r2 : List Int) (r3 : Bool) (w : World) (hr0_0 : Kd.C (Kd.int .i64) w A0_0 l0_0.length l0_0) (hc0_0 : l0_0.length ≤ c0_0) (hr0_1 : Kd.C (Kd.int .i64) w A0_1 l0_1.length l0_1) (hc0_1 : l0_1.length ≤ c0_1) (h : impl_ShearSurface.f k l0_0 l0_1 = some (r1, r2, r3)) :
    Calls Try.prog 114 #[.agg #[.slice A0_0 l0_0.length c0_0, .slice A0_1 l0_1.length c0_1]] w fun e w' => ∃ v0_ v1_ : Value, e = .returned (.tuple #[.agg #[v0_, v1_], .bool r3]) ∧ Kd.R (Kd.int .i64) 3 w' w.heap.size (fun k_ => some k_ ≠ (v1_ : Value).ownBlock) v0_ r1 ∧ Kd.R (Kd.int .i64) 3 w' w.heap.size (fun k_ => some k_ ≠ (v0_ : Value).ownBlock) v1_ r2 ∧ Below w.heap.size w w' := by
  have hu33 := Try.underlying33
  have HR0_0 := Aside0.mk hr0_0
  have HC0_0 := Aside0.mk hc0_0
  clear hr0_0 hc0_0
  have HR0_1 := Aside0.mk hr0_1
  have HC0_1 := Aside0.mk hc0_1
  clear hr0_1 hc0_1
  have HB := Aside0.mk (Below.refl w.heap.size w)
  have H := h
  unfold impl_ShearSurface.f at H
  clear h
  obtain ⟨t676, A2, H⟩ := bi_ H
  by_cases c3 : t676 = true
  · subst c3
    rw [if_pos rfl] at H
    obtain ⟨t677, A4, H⟩ := bi_ H
    obtain ⟨t680, A5, H⟩ := bi_ H
    obtain ⟨t683, A6, H⟩ := bi_ H
    simp only [Option.some.injEq, Prod.mk.injEq] at H
    obtain ⟨rfl, rfl, rfl⟩ := H
    go_enter Try.func114, Try.ntmps114
    try go_wp2_with (first | ((with_reducible refine gate_dst (N := 1) rfl ?_); refine bx_ 1 #[.slice A0_0 l0_0.length c0_0, .slice A0_1 l0_1.length c0_1] 33 ?_; intro gb674 hg w7 hbox hb; have BK674 := Aside0.mk hbox; have GW674 := gw_ w hg; have GE674 := GW674; replace HB := b1_ hb; clear hb hbox hg) | ((with_reducible refine gate_dst (N := 2) rfl ?_); refine bx_ 2 #[.slice none 0 0, .slice none 0 0] 33 ?_; intro gb675 hg w8 hbox hb; have BK675 := Aside0.mk hbox; have GW675 := gw_ w hg; have GE675 := GW675; replace HB := b1_ hb; have NB674_675 := gN_ BK674 hg; have NB675_674 := gP_ BK674 hg; replace BK674 := bb_ BK674 hb; clear hb hbox hg; have hnb9 := NB674_675.out; have hnc9 := NB675_674.out; obtain ⟨hcz10_0, hcz10_1, hfz10_0, hfz10_1⟩ := c2_ BK674) | ((with_reducible refine gate_callee (f := 19) rfl ?_); refine gL_ (some 5) Try.func19 #[.agg #[.slice A0_0 l0_0.length c0_0, .slice A0_1 l0_1.length c0_1]] rfl qa_ ?_; (with_reducible refine (impl_SurfaceOk.calls k _ _ l0_0 _ _ l0_1 true _ (cb_ HR0_0) HC0_0.out (cb_ HR0_1) HC0_1.out A2.out).mono ?_); rintro e w11 ⟨rfl, hb⟩; refine ⟨_, rfl, ?_⟩; replace BK674 := bb_ BK674 hb; replace BK675 := bb_ BK675 hb; replace HB := b1_ hb; clear hb))
    replace BK674 := Aside0.mk (blk_drew BK674.out)
    replace BK675 := Aside0.mk (blk_drew BK675.out)
    replace HB := Aside0.mk (below_drew1 HB.out)
    refine start_ (n := 12) (S := fun w' => w'.cell? ⟨gb674, 0, none⟩ = some (.slice A0_0 l0_0.length c0_0) ∧ w'.cell? ⟨gb674, 1, none⟩ = some (.slice A0_1 l0_1.length c0_1)) (ds := []) (bl_ 12 0) (by kernel_rfl) rfl (by kernel_rfl) ⟨cz0_ BK674, cz1_ BK674⟩ (fun hHeld => ?_); refine with_tabW impl_ShearSurface.tab3 impl_ShearSurface.bits3 (fun HT_ HW_ => ?_)
    generalize w11.drew = w12 at BK674 BK675 HB hHeld ⊢
    refine pu_ 0 (some 8) (bl_ 12 1) HT_ ?_
    refine pu_ 3 (some 11) (bl_ 12 9) HT_ ?_
    refine pu_ 6 (some 14) (bl_ 12 73) HT_ ?_
    refine ta_ 1 (some 9) (bl_ 12 75) HT_ HW_ hHeld ?_
    refine ta_ 4 (some 12) (bl_ 12 91) HT_ HW_ hHeld ?_
    refine ta_ 7 (some 15) (bl_ 12 219) HT_ HW_ hHeld ?_
    refine on_ 2 (some 10) (bl_ 12 223) HT_ (fun K hK => ?_)
    refine gO_ Try.func100 #[.slice A0_0 l0_0.length c0_0] (by rfl) rfl rfl qa_ ?_
    with_reducible refine (impl_copyInts.calls _ _ l0_0 t677 _ (cb_ HR0_0) HC0_0.out A4.out).mono ?_
    rintro e w13 ⟨v678, rfl, ho0, hb⟩
    refine ⟨_, rfl, ?_⟩
    have HO679 := rl_ w ho0
    replace BK674 := bb_ BK674 hb
    replace BK675 := bb_ BK675 hb
    replace HB := b1_ hb
    clear hb ho0
    refine hK.out _ _ ⟨cz0_ BK674, cz1_ BK674⟩ (fun hHeld => ?_)
    clear hK K
    refine no_ (some 10) ?_
    refine on_ 5 (some 13) (bl_ 12 255) HT_ (fun K hK => ?_)
    refine gO_ Try.func122 #[.slice A0_0 l0_0.length c0_0] (by rfl) rfl rfl qa_ ?_
    with_reducible refine (impl_InversePerm.calls k _ _ l0_0 t680 _ (cb_ HR0_0) HC0_0.out A5.out).mono ?_
    rintro e w14 ⟨v681, rfl, ho0, hb⟩
    refine ⟨_, rfl, ?_⟩
    have HO682 := Aside0.mk (Kd.R_lower (Kd.R_new' ho0 (Kd.R_lt (rr_ HO679))) (below_size hB_))
    replace HO679 := Aside0.mk (Kd.R_elder' (rr_ HO679) (Kd.R_base ho0) hb)
    replace BK674 := bb_ BK674 hb
    replace BK675 := bb_ BK675 hb
    replace HB := b1_ hb
    clear hb ho0
    obtain ⟨Ao15, co15, eo15⟩ := Kd.R_slice HO682.out
    (first | subst eo15 | (injection eo15 with f1_ f2_ f3_; have f4_ := f1_.symm; have f5_ := f3_.symm; clear f1_ f2_ f3_; subst f4_; subst f5_))
    refine hK.out _ _ ⟨cz0_ BK674, cz1_ BK674⟩ (fun hHeld => ?_)
    clear hK K
    refine no_ (some 13) ?_
    refine on_ 8 (some 16) (bl_ 12 511) HT_ (fun K hK => ?_)
    refine gO_ Try.func152 #[.slice Ao15 t680.length co15, .slice A0_1 l0_1.length c0_1] (by rfl) rfl rfl qa_ ?_
    with_reducible refine (impl_ThenPerm.calls k _ _ t680 _ _ l0_1 t683 _ (cr_ HO682) ((Kd.R_reads' HO682.out).2.1) (cb_ HR0_1) HC0_1.out A6.out).mono ?_
    rintro e w16 ⟨v684, rfl, ho0, hb⟩
    refine ⟨_, rfl, ?_⟩
    have HO685 := Aside0.mk (Kd.R_lower (Kd.R_new' (Kd.R_new' ho0 (Kd.R_lt (rr_ HO679))) (Kd.R_lt (rr_ HO682))) (below_size hB_))
    replace HO679 := Aside0.mk (Kd.R_elder' (rr_ HO679) (Kd.R_base ho0) hb)
    replace HO682 := Aside0.mk (Kd.R_elder' (rr_ HO682) (Kd.R_base ho0) hb)
    replace BK674 := bb_ BK674 hb
    replace BK675 := bb_ BK675 hb
    replace HB := b1_ hb
    clear hb ho0
    obtain ⟨Ao17, co17, eo17⟩ := Kd.R_slice HO685.out
    (first | subst eo17 | (injection eo17 with f1_ f2_ f3_; have f4_ := f1_.symm; have f5_ := f3_.symm; clear f1_ f2_ f3_; subst f4_; subst f5_))
    obtain ⟨Ao18, co18, eo18⟩ := Kd.R_slice HO679.out
    (first | subst eo18 | (injection eo18 with f1_ f2_ f3_; have f4_ := f1_.symm; have f5_ := f3_.symm; clear f1_ f2_ f3_; subst f4_; subst f5_))
    refine hK.out _ _ ⟨cz0_ BK674, cz1_ BK674⟩ (fun hHeld => ?_)
    clear hK K
    refine no_ (some 16) ?_
    refine pu_ 9 (some 17) (bl_ 12 1023) HT_ ?_
    refine on_ 10 (none) (bl_ 12 2047) HT_ (fun K hK => ?_)
    have hs19 : w16.cell? ⟨gb675, 0, none⟩ = some (.slice none 0 0) := cz0_ BK675
    have hfs19 := blk_frozen BK675.out 0
    have hns19_0 := NB674_675.out
    have hms19_0 := NB675_674.out
    have hs20 : w16.cell? ⟨gb675, 1, none⟩ = some (.slice none 0 0) := cz1_ BK675
    have hfs20 := blk_frozen BK675.out 1
    have hns20_0 := NB674_675.out
    have hms20_0 := NB675_674.out
    refine skip_ (w1 := ?_) (by rfl) rfl ?_ ?_
    rotate_left
    · go_simp
      rfl
    refine hK.out _ _ ⟨((cell_far (p := ⟨gb675, _, none⟩) NB674_675.out _).trans (((cell_far (p := ⟨gb675, _, none⟩) NB674_675.out _).trans (hHeld.1)))), ((cell_far (p := ⟨gb675, _, none⟩) NB674_675.out _).trans (((cell_far (p := ⟨gb675, _, none⟩) NB674_675.out _).trans (hHeld.2))))⟩ (fun hHeld => ?_)
    clear hK K
    refine pu_ 11 (some 3) (bl_ 12 4095) HT_ ?_
    refine done_ (done_of HT_.out (by kernel_rfl)) ?_
    try go_wp2
    refine bodyPost_ret (results_ct rfl _ _ gb675 33 #[.slice Ao18 t677.length co18, .slice Ao17 t683.length co17] (0, 0) _ rfl qp_ Try.underlying33 rfl (by kernel_rfl)) rfl ?_
    exact ⟨_, _, qb_, (rw_ (Kd.R_mono (fa_ HO679 BK675) (fun _ hk => hk.2))), (rw_ (Kd.R_mono (fa_ HO685 BK675) (fun _ hk => hk.1.2))), hB_⟩
  · replace c3 := Bool.eq_false_iff.mpr c3
    subst c3
    have H1 : (some (([] : List Int), ([] : List Int), false)) = some (r1, r2, r3) := by rw [if_neg (show ¬ (false = true) by decide)] at H; exact H
    clear H
    have H := H1
    clear H1
    simp only [Option.some.injEq, Prod.mk.injEq] at H
    obtain ⟨rfl, rfl, rfl⟩ := H
    go_enter Try.func114, Try.ntmps114
    go_wp2_with (first | ((with_reducible refine gate_dst (N := 1) rfl ?_); refine bx_ 1 #[.slice A0_0 l0_0.length c0_0, .slice A0_1 l0_1.length c0_1] 33 ?_; intro gb674 hg w21 hbox hb; have BK674 := Aside0.mk hbox; have GW674 := gw_ w hg; have GE674 := GW674; replace HB := b1_ hb; clear hb hbox hg) | ((with_reducible refine gate_dst (N := 2) rfl ?_); refine bx_ 2 #[.slice none 0 0, .slice none 0 0] 33 ?_; intro gb675 hg w22 hbox hb; have BK675 := Aside0.mk hbox; have GW675 := gw_ w hg; have GE675 := GW675; replace HB := b1_ hb; have NB674_675 := gN_ BK674 hg; have NB675_674 := gP_ BK674 hg; replace BK674 := bb_ BK674 hb; clear hb hbox hg; have hnb23 := NB674_675.out; have hnc23 := NB675_674.out; obtain ⟨hcz24_0, hcz24_1, hfz24_0, hfz24_1⟩ := c2_ BK674) | ((with_reducible refine gate_callee (f := 19) rfl ?_); refine gL_ (some 5) Try.func19 #[.agg #[.slice A0_0 l0_0.length c0_0, .slice A0_1 l0_1.length c0_1]] rfl qa_ ?_; (with_reducible refine (impl_SurfaceOk.calls k _ _ l0_0 _ _ l0_1 false _ (cb_ HR0_0) HC0_0.out (cb_ HR0_1) HC0_1.out A2.out).mono ?_); rintro e w25 ⟨rfl, hb⟩; refine ⟨_, rfl, ?_⟩; replace BK674 := bb_ BK674 hb; replace BK675 := bb_ BK675 hb; replace HB := b1_ hb; clear hb; obtain ⟨hcz26_0, hcz26_1, hfz26_0, hfz26_1⟩ := c2_ BK675))
    refine bodyPost_ret (results_ct rfl _ _ gb675 33 #[.slice none 0 0, .slice none 0 0] (0, 0) _ rfl qp_ Try.underlying33 rfl (by kernel_rfl)) rfl ?_
    exact ⟨_, _, qb_, by first | exact Kd.R_nil _ _ _ _ _ | exact Kd.N_nil _ _ _ _ _ | exact Kd.V_nil _ _ _ _ _ | exact Kd.Q_nil _ _ _ _ _ | exact Kd.S_nil _ _ _ _ _, by first | exact Kd.R_nil _ _ _ _ _ | exact Kd.N_nil _ _ _ _ _ | exact Kd.V_nil _ _ _ _ _ | exact Kd.Q_nil _ _ _ _ _ | exact Kd.S_nil _ _ _ _ _, hB_⟩
end Go.Proofs.Ytoijcallajegfaa.A
end
section
namespace Go.Proofs.Ytoijcallajegfaa.A
open Go.RowKit Go.Proofs.YtoijcallajegfaaW.PrintWords Go.Proofs.YtoijcallajegfaaW.PrintLast Go.Proofs.YtoijcallajegfaaW.PrintMore
attribute [local go_sem] max2_int min2_int max_two min_two max_three min_three max_four min_four
set_option linter.unusedVariables false
set_option linter.unusedSimpArgs false
def impl_UnshearSurface.f (k : Nat) (l0_0 : List Int) (l0_1 : List Int) : Option (List Int × List Int × Bool) := (impl_SurfaceOk.f k l0_0 l0_1).bind fun t688 => (if t688 = true then ((impl_copyInts.f l0_0).bind fun t689 => ((impl_ThenPerm.f k l0_0 l0_1).bind fun t692 => (some (t689, t692, true)))) else (some (([] : List Int), ([] : List Int), false)))
theorem impl_UnshearSurface.mono : ∀ a0 a1 k, LeO (impl_UnshearSurface.f k a0 a1) (impl_UnshearSurface.f (k + 1) a0 a1) := by
  intro a0 a1 k
  unfold impl_UnshearSurface.f
  repeat' first|exact impl_SurfaceOk.mono _ _ _|exact impl_ThenPerm.mono _ _ _|exact lo_|refine LeO.ite ?_ ?_|refine LeO.bind ?_ (fun _ => ?_)
def impl_UnshearSurface.T3 : Bool × List (List Nat × List Nat) := (true, [([], []), ([0], [0]), ([1], [1]), ([], []), ([3], [3]), ([], []), ([5], [5]), ([4, 6, 2], [4, 6]), ([2, 7], [2, 7]), ([8, 7, 0, 1, 2, 3, 4, 5, 6, 7, 8], [8]), ([9, 0, 1, 2, 3, 4, 5, 6, 7, 8, 9], [])])
def impl_UnshearSurface.B3 : List Nat := [0, 1, 3, 0, 8, 0, 32, 127, 255, 511, 1023]
theorem impl_UnshearSurface.tab3 : rtab .any (opsOf Try.f115 3) = impl_UnshearSurface.T3 := by kernel_rfl
theorem impl_UnshearSurface.bits3 : waitsOk impl_UnshearSurface.T3.2 impl_UnshearSurface.B3 = true := by kernel_rfl
set_option maxHeartbeats 8000000 in
set_option maxRecDepth 100000 in
theorem impl_UnshearSurface.calls (k : Nat) (A0_0 : Option Addr) (c0_0 : Nat) (l0_0 : List Int) (A0_1 : Option Addr) (c0_1 : Nat) (l0_1 : List Int) (r1 : List Int) (r2 : List Int) (r3 : Bool) (w : World) (hr0_0 : Kd.C (Kd.int .i64) w A0_0 l0_0.length l0_0) (hc0_0 : l0_0.length ≤ c0_0) (hr0_1 : Kd.C (Kd.int .i64) w A0_1 l0_1.length l0_1) (hc0_1 : l0_1.length ≤ c0_1) (h : impl_UnshearSurface.f k l0_0 l0_1 = some (r1, r2, r3)) :
    Calls Try.prog 115 #[.agg #[.slice A0_0 l0_0.length c0_0, .slice A0_1 l0_1.length c0_1]] w fun e w' => ∃ v0_ v1_ : Value, e = .returned (.tuple #[.agg #[v0_, v1_], .bool r3]) ∧ Kd.R (Kd.int .i64) 3 w' w.heap.size (fun k_ => some k_ ≠ (v1_ : Value).ownBlock) v0_ r1 ∧ Kd.R (Kd.int .i64) 3 w' w.heap.size (fun k_ => some k_ ≠ (v0_ : Value).ownBlock) v1_ r2 ∧ Below w.heap.size w w' := by
  have hu33 := Try.underlying33
  have HR0_0 := Aside0.mk hr0_0
  have HC0_0 := Aside0.mk hc0_0
  clear hr0_0 hc0_0
  have HR0_1 := Aside0.mk hr0_1
  have HC0_1 := Aside0.mk hc0_1
  clear hr0_1 hc0_1
  have HB := Aside0.mk (Below.refl w.heap.size w)
  have H := h
  unfold impl_UnshearSurface.f at H
  clear h
  obtain ⟨t688, A2, H⟩ := bi_ H
  by_cases c3 : t688 = true
  · subst c3
    rw [if_pos rfl] at H
    obtain ⟨t689, A4, H⟩ := bi_ H
    obtain ⟨t692, A5, H⟩ := bi_ H
    simp only [Option.some.injEq, Prod.mk.injEq] at H
    obtain ⟨rfl, rfl, rfl⟩ := H
    go_enter Try.func115, Try.ntmps115
    try go_wp2_with (first | ((with_reducible refine gate_dst (N := 1) rfl ?_); refine bx_ 1 #[.slice A0_0 l0_0.length c0_0, .slice A0_1 l0_1.length c0_1] 33 ?_; intro gb686 hg w6 hbox hb; have BK686 := Aside0.mk hbox; have GW686 := gw_ w hg; have GE686 := GW686; replace HB := b1_ hb; clear hb hbox hg) | ((with_reducible refine gate_dst (N := 2) rfl ?_); refine bx_ 2 #[.slice none 0 0, .slice none 0 0] 33 ?_; intro gb687 hg w7 hbox hb; have BK687 := Aside0.mk hbox; have GW687 := gw_ w hg; have GE687 := GW687; replace HB := b1_ hb; have NB686_687 := gN_ BK686 hg; have NB687_686 := gP_ BK686 hg; replace BK686 := bb_ BK686 hb; clear hb hbox hg; have hnb8 := NB686_687.out; have hnc8 := NB687_686.out; obtain ⟨hcz9_0, hcz9_1, hfz9_0, hfz9_1⟩ := c2_ BK686) | ((with_reducible refine gate_callee (f := 19) rfl ?_); refine gL_ (some 5) Try.func19 #[.agg #[.slice A0_0 l0_0.length c0_0, .slice A0_1 l0_1.length c0_1]] rfl qa_ ?_; (with_reducible refine (impl_SurfaceOk.calls k _ _ l0_0 _ _ l0_1 true _ (cb_ HR0_0) HC0_0.out (cb_ HR0_1) HC0_1.out A2.out).mono ?_); rintro e w10 ⟨rfl, hb⟩; refine ⟨_, rfl, ?_⟩; replace BK686 := bb_ BK686 hb; replace BK687 := bb_ BK687 hb; replace HB := b1_ hb; clear hb))
    replace BK686 := Aside0.mk (blk_drew BK686.out)
    replace BK687 := Aside0.mk (blk_drew BK687.out)
    replace HB := Aside0.mk (below_drew1 HB.out)
    refine start_ (n := 11) (S := fun w' => w'.cell? ⟨gb686, 0, none⟩ = some (.slice A0_0 l0_0.length c0_0) ∧ w'.cell? ⟨gb686, 1, none⟩ = some (.slice A0_1 l0_1.length c0_1)) (ds := []) (bl_ 11 0) (by kernel_rfl) rfl (by kernel_rfl) ⟨cz0_ BK686, cz1_ BK686⟩ (fun hHeld => ?_); refine with_tabW impl_UnshearSurface.tab3 impl_UnshearSurface.bits3 (fun HT_ HW_ => ?_)
    generalize w10.drew = w11 at BK686 BK687 HB hHeld ⊢
    refine pu_ 0 (some 8) (bl_ 11 1) HT_ ?_
    refine pu_ 3 (some 11) (bl_ 11 9) HT_ ?_
    refine pu_ 5 (some 13) (bl_ 11 41) HT_ ?_
    refine ta_ 1 (some 9) (bl_ 11 43) HT_ HW_ hHeld ?_
    refine ta_ 4 (some 12) (bl_ 11 59) HT_ HW_ hHeld ?_
    refine ta_ 6 (some 14) (bl_ 11 123) HT_ HW_ hHeld ?_
    refine on_ 2 (some 10) (bl_ 11 127) HT_ (fun K hK => ?_)
    refine gO_ Try.func100 #[.slice A0_0 l0_0.length c0_0] (by rfl) rfl rfl qa_ ?_
    with_reducible refine (impl_copyInts.calls _ _ l0_0 t689 _ (cb_ HR0_0) HC0_0.out A4.out).mono ?_
    rintro e w12 ⟨v690, rfl, ho0, hb⟩
    refine ⟨_, rfl, ?_⟩
    have HO691 := rl_ w ho0
    replace BK686 := bb_ BK686 hb
    replace BK687 := bb_ BK687 hb
    replace HB := b1_ hb
    clear hb ho0
    refine hK.out _ _ ⟨cz0_ BK686, cz1_ BK686⟩ (fun hHeld => ?_)
    clear hK K
    refine no_ (some 10) ?_
    refine on_ 7 (some 15) (bl_ 11 255) HT_ (fun K hK => ?_)
    refine gO_ Try.func152 #[.slice A0_0 l0_0.length c0_0, .slice A0_1 l0_1.length c0_1] (by rfl) rfl rfl qa_ ?_
    with_reducible refine (impl_ThenPerm.calls k _ _ l0_0 _ _ l0_1 t692 _ (cb_ HR0_0) HC0_0.out (cb_ HR0_1) HC0_1.out A5.out).mono ?_
    rintro e w13 ⟨v693, rfl, ho0, hb⟩
    refine ⟨_, rfl, ?_⟩
    have HO694 := Aside0.mk (Kd.R_lower (Kd.R_new' ho0 (Kd.R_lt (rr_ HO691))) (below_size hB_))
    replace HO691 := Aside0.mk (Kd.R_elder' (rr_ HO691) (Kd.R_base ho0) hb)
    replace BK686 := bb_ BK686 hb
    replace BK687 := bb_ BK687 hb
    replace HB := b1_ hb
    clear hb ho0
    obtain ⟨Ao14, co14, eo14⟩ := Kd.R_slice HO694.out
    (first | subst eo14 | (injection eo14 with f1_ f2_ f3_; have f4_ := f1_.symm; have f5_ := f3_.symm; clear f1_ f2_ f3_; subst f4_; subst f5_))
    obtain ⟨Ao15, co15, eo15⟩ := Kd.R_slice HO691.out
    (first | subst eo15 | (injection eo15 with f1_ f2_ f3_; have f4_ := f1_.symm; have f5_ := f3_.symm; clear f1_ f2_ f3_; subst f4_; subst f5_))
    refine hK.out _ _ ⟨cz0_ BK686, cz1_ BK686⟩ (fun hHeld => ?_)
    clear hK K
    refine no_ (some 15) ?_
    refine pu_ 8 (some 16) (bl_ 11 511) HT_ ?_
    refine on_ 9 (none) (bl_ 11 1023) HT_ (fun K hK => ?_)
    have hs16 : w13.cell? ⟨gb687, 0, none⟩ = some (.slice none 0 0) := cz0_ BK687
    have hfs16 := blk_frozen BK687.out 0
    have hns16_0 := NB686_687.out
    have hms16_0 := NB687_686.out
    have hs17 : w13.cell? ⟨gb687, 1, none⟩ = some (.slice none 0 0) := cz1_ BK687
    have hfs17 := blk_frozen BK687.out 1
    have hns17_0 := NB686_687.out
    have hms17_0 := NB687_686.out
    refine skip_ (w1 := ?_) (by rfl) rfl ?_ ?_
    rotate_left
    · go_simp
      rfl
    refine hK.out _ _ ⟨((cell_far (p := ⟨gb687, _, none⟩) NB686_687.out _).trans (((cell_far (p := ⟨gb687, _, none⟩) NB686_687.out _).trans (hHeld.1)))), ((cell_far (p := ⟨gb687, _, none⟩) NB686_687.out _).trans (((cell_far (p := ⟨gb687, _, none⟩) NB686_687.out _).trans (hHeld.2))))⟩ (fun hHeld => ?_)
    clear hK K
    refine pu_ 10 (some 3) (bl_ 11 2047) HT_ ?_
    refine done_ (done_of HT_.out (by kernel_rfl)) ?_
    try go_wp2
    refine bodyPost_ret (results_ct rfl _ _ gb687 33 #[.slice Ao15 t689.length co15, .slice Ao14 t692.length co14] (0, 0) _ rfl qp_ Try.underlying33 rfl (by kernel_rfl)) rfl ?_
    exact ⟨_, _, qb_, (rw_ (Kd.R_mono (fa_ HO691 BK687) (fun _ hk => hk.2))), (rw_ (Kd.R_mono (fa_ HO694 BK687) (fun _ hk => hk.2))), hB_⟩
  · replace c3 := Bool.eq_false_iff.mpr c3
    subst c3
    have H1 : (some (([] : List Int), ([] : List Int), false)) = some (r1, r2, r3) := by rw [if_neg (show ¬ (false = true) by decide)] at H; exact H
    clear H
    have H := H1
    clear H1
    simp only [Option.some.injEq, Prod.mk.injEq] at H
    obtain ⟨rfl, rfl, rfl⟩ := H
    go_enter Try.func115, Try.ntmps115
    go_wp2_with (first | ((with_reducible refine gate_dst (N := 1) rfl ?_); refine bx_ 1 #[.slice A0_0 l0_0.length c0_0, .slice A0_1 l0_1.length c0_1] 33 ?_; intro gb686 hg w18 hbox hb; have BK686 := Aside0.mk hbox; have GW686 := gw_ w hg; have GE686 := GW686; replace HB := b1_ hb; clear hb hbox hg) | ((with_reducible refine gate_dst (N := 2) rfl ?_); refine bx_ 2 #[.slice none 0 0, .slice none 0 0] 33 ?_; intro gb687 hg w19 hbox hb; have BK687 := Aside0.mk hbox; have GW687 := gw_ w hg; have GE687 := GW687; replace HB := b1_ hb; have NB686_687 := gN_ BK686 hg; have NB687_686 := gP_ BK686 hg; replace BK686 := bb_ BK686 hb; clear hb hbox hg; have hnb20 := NB686_687.out; have hnc20 := NB687_686.out; obtain ⟨hcz21_0, hcz21_1, hfz21_0, hfz21_1⟩ := c2_ BK686) | ((with_reducible refine gate_callee (f := 19) rfl ?_); refine gL_ (some 5) Try.func19 #[.agg #[.slice A0_0 l0_0.length c0_0, .slice A0_1 l0_1.length c0_1]] rfl qa_ ?_; (with_reducible refine (impl_SurfaceOk.calls k _ _ l0_0 _ _ l0_1 false _ (cb_ HR0_0) HC0_0.out (cb_ HR0_1) HC0_1.out A2.out).mono ?_); rintro e w22 ⟨rfl, hb⟩; refine ⟨_, rfl, ?_⟩; replace BK686 := bb_ BK686 hb; replace BK687 := bb_ BK687 hb; replace HB := b1_ hb; clear hb; obtain ⟨hcz23_0, hcz23_1, hfz23_0, hfz23_1⟩ := c2_ BK687))
    refine bodyPost_ret (results_ct rfl _ _ gb687 33 #[.slice none 0 0, .slice none 0 0] (0, 0) _ rfl qp_ Try.underlying33 rfl (by kernel_rfl)) rfl ?_
    exact ⟨_, _, qb_, by first | exact Kd.R_nil _ _ _ _ _ | exact Kd.N_nil _ _ _ _ _ | exact Kd.V_nil _ _ _ _ _ | exact Kd.Q_nil _ _ _ _ _ | exact Kd.S_nil _ _ _ _ _, by first | exact Kd.R_nil _ _ _ _ _ | exact Kd.N_nil _ _ _ _ _ | exact Kd.V_nil _ _ _ _ _ | exact Kd.Q_nil _ _ _ _ _ | exact Kd.S_nil _ _ _ _ _, hB_⟩
end Go.Proofs.Ytoijcallajegfaa.A
end
section
namespace Go.Proofs.Ytoijcallajegfaa.A
open Go.RowKit Go.Proofs.YtoijcallajegfaaW.PrintWords Go.Proofs.YtoijcallajegfaaW.PrintLast Go.Proofs.YtoijcallajegfaaW.PrintMore
attribute [local go_sem] max2_int min2_int max_two min_two max_three min_three max_four min_four
set_option linter.unusedVariables false
set_option linter.unusedSimpArgs false
def impl_TurnSurface.f (k : Nat) (l0_0 : List Int) (l0_1 : List Int) : Option (List Int × List Int × Bool) := (impl_SurfaceOk.f k l0_0 l0_1).bind fun t697 => (if t697 = true then ((impl_InversePerm.f k l0_1).bind fun t698 => ((impl_copyInts.f l0_0).bind fun t701 => (some (t698, t701, true)))) else (some (([] : List Int), ([] : List Int), false)))
theorem impl_TurnSurface.mono : ∀ a0 a1 k, LeO (impl_TurnSurface.f k a0 a1) (impl_TurnSurface.f (k + 1) a0 a1) := by
  intro a0 a1 k
  unfold impl_TurnSurface.f
  repeat' first|exact impl_InversePerm.mono _ _|exact impl_SurfaceOk.mono _ _ _|exact lo_|refine LeO.ite ?_ ?_|refine LeO.bind ?_ (fun _ => ?_)
def impl_TurnSurface.T3 : Bool × List (List Nat × List Nat) := (true, [([], []), ([0], [0]), ([1], [1]), ([], []), ([3], [3]), ([4, 2], [4]), ([2, 5], [2, 5]), ([6, 5, 0, 1, 2, 3, 4, 5, 6], [6]), ([7, 0, 1, 2, 3, 4, 5, 6, 7], [])])
def impl_TurnSurface.B3 : List Nat := [0, 1, 3, 0, 8, 31, 63, 127, 255]
theorem impl_TurnSurface.tab3 : rtab .any (opsOf Try.f116 3) = impl_TurnSurface.T3 := by kernel_rfl
theorem impl_TurnSurface.bits3 : waitsOk impl_TurnSurface.T3.2 impl_TurnSurface.B3 = true := by kernel_rfl
set_option maxHeartbeats 8000000 in
set_option maxRecDepth 100000 in
theorem impl_TurnSurface.calls (k : Nat) (A0_0 : Option Addr) (c0_0 : Nat) (l0_0 : List Int) (A0_1 : Option Addr) (c0_1 : Nat) (l0_1 : List Int) (r1 : List Int) (r2 : List Int) (r3 : Bool) (w : World) (hr0_0 : Kd.C (Kd.int .i64) w A0_0 l0_0.length l0_0) (hc0_0 : l0_0.length ≤ c0_0) (hr0_1 : Kd.C (Kd.int .i64) w A0_1 l0_1.length l0_1) (hc0_1 : l0_1.length ≤ c0_1) (h : impl_TurnSurface.f k l0_0 l0_1 = some (r1, r2, r3)) :
    Calls Try.prog 116 #[.agg #[.slice A0_0 l0_0.length c0_0, .slice A0_1 l0_1.length c0_1]] w fun e w' => ∃ v0_ v1_ : Value, e = .returned (.tuple #[.agg #[v0_, v1_], .bool r3]) ∧ Kd.R (Kd.int .i64) 3 w' w.heap.size (fun k_ => some k_ ≠ (v1_ : Value).ownBlock) v0_ r1 ∧ Kd.R (Kd.int .i64) 3 w' w.heap.size (fun k_ => some k_ ≠ (v0_ : Value).ownBlock) v1_ r2 ∧ Below w.heap.size w w' := by
  have hu33 := Try.underlying33
  have HR0_0 := Aside0.mk hr0_0
  have HC0_0 := Aside0.mk hc0_0
  clear hr0_0 hc0_0
  have HR0_1 := Aside0.mk hr0_1
  have HC0_1 := Aside0.mk hc0_1
  clear hr0_1 hc0_1
  have HB := Aside0.mk (Below.refl w.heap.size w)
  have H := h
  unfold impl_TurnSurface.f at H
  clear h
  obtain ⟨t697, A2, H⟩ := bi_ H
  by_cases c3 : t697 = true
  · subst c3
    rw [if_pos rfl] at H
    obtain ⟨t698, A4, H⟩ := bi_ H
    obtain ⟨t701, A5, H⟩ := bi_ H
    simp only [Option.some.injEq, Prod.mk.injEq] at H
    obtain ⟨rfl, rfl, rfl⟩ := H
    go_enter Try.func116, Try.ntmps116
    try go_wp2_with (first | ((with_reducible refine gate_dst (N := 1) rfl ?_); refine bx_ 1 #[.slice A0_0 l0_0.length c0_0, .slice A0_1 l0_1.length c0_1] 33 ?_; intro gb695 hg w6 hbox hb; have BK695 := Aside0.mk hbox; have GW695 := gw_ w hg; have GE695 := GW695; replace HB := b1_ hb; clear hb hbox hg) | ((with_reducible refine gate_dst (N := 2) rfl ?_); refine bx_ 2 #[.slice none 0 0, .slice none 0 0] 33 ?_; intro gb696 hg w7 hbox hb; have BK696 := Aside0.mk hbox; have GW696 := gw_ w hg; have GE696 := GW696; replace HB := b1_ hb; have NB695_696 := gN_ BK695 hg; have NB696_695 := gP_ BK695 hg; replace BK695 := bb_ BK695 hb; clear hb hbox hg; have hnb8 := NB695_696.out; have hnc8 := NB696_695.out; obtain ⟨hcz9_0, hcz9_1, hfz9_0, hfz9_1⟩ := c2_ BK695) | ((with_reducible refine gate_callee (f := 19) rfl ?_); refine gL_ (some 5) Try.func19 #[.agg #[.slice A0_0 l0_0.length c0_0, .slice A0_1 l0_1.length c0_1]] rfl qa_ ?_; (with_reducible refine (impl_SurfaceOk.calls k _ _ l0_0 _ _ l0_1 true _ (cb_ HR0_0) HC0_0.out (cb_ HR0_1) HC0_1.out A2.out).mono ?_); rintro e w10 ⟨rfl, hb⟩; refine ⟨_, rfl, ?_⟩; replace BK695 := bb_ BK695 hb; replace BK696 := bb_ BK696 hb; replace HB := b1_ hb; clear hb))
    replace BK695 := Aside0.mk (blk_drew BK695.out)
    replace BK696 := Aside0.mk (blk_drew BK696.out)
    replace HB := Aside0.mk (below_drew1 HB.out)
    refine start_ (n := 9) (S := fun w' => w'.cell? ⟨gb695, 0, none⟩ = some (.slice A0_0 l0_0.length c0_0) ∧ w'.cell? ⟨gb695, 1, none⟩ = some (.slice A0_1 l0_1.length c0_1)) (ds := []) (bl_ 9 0) (by kernel_rfl) rfl (by kernel_rfl) ⟨cz0_ BK695, cz1_ BK695⟩ (fun hHeld => ?_); refine with_tabW impl_TurnSurface.tab3 impl_TurnSurface.bits3 (fun HT_ HW_ => ?_)
    generalize w10.drew = w11 at BK695 BK696 HB hHeld ⊢
    refine pu_ 0 (some 8) (bl_ 9 1) HT_ ?_
    refine pu_ 3 (some 11) (bl_ 9 9) HT_ ?_
    refine ta_ 1 (some 9) (bl_ 9 11) HT_ HW_ hHeld ?_
    refine ta_ 4 (some 12) (bl_ 9 27) HT_ HW_ hHeld ?_
    refine on_ 2 (some 10) (bl_ 9 31) HT_ (fun K hK => ?_)
    refine gO_ Try.func122 #[.slice A0_1 l0_1.length c0_1] (by rfl) rfl rfl qa_ ?_
    with_reducible refine (impl_InversePerm.calls k _ _ l0_1 t698 _ (cb_ HR0_1) HC0_1.out A4.out).mono ?_
    rintro e w12 ⟨v699, rfl, ho0, hb⟩
    refine ⟨_, rfl, ?_⟩
    have HO700 := rl_ w ho0
    replace BK695 := bb_ BK695 hb
    replace BK696 := bb_ BK696 hb
    replace HB := b1_ hb
    clear hb ho0
    refine hK.out _ _ ⟨cz0_ BK695, cz1_ BK695⟩ (fun hHeld => ?_)
    clear hK K
    refine no_ (some 10) ?_
    refine on_ 5 (some 13) (bl_ 9 63) HT_ (fun K hK => ?_)
    refine gO_ Try.func100 #[.slice A0_0 l0_0.length c0_0] (by rfl) rfl rfl qa_ ?_
    with_reducible refine (impl_copyInts.calls _ _ l0_0 t701 _ (cb_ HR0_0) HC0_0.out A5.out).mono ?_
    rintro e w13 ⟨v702, rfl, ho0, hb⟩
    refine ⟨_, rfl, ?_⟩
    have HO703 := Aside0.mk (Kd.R_lower (Kd.R_new' ho0 (Kd.R_lt (rr_ HO700))) (below_size hB_))
    replace HO700 := Aside0.mk (Kd.R_elder' (rr_ HO700) (Kd.R_base ho0) hb)
    replace BK695 := bb_ BK695 hb
    replace BK696 := bb_ BK696 hb
    replace HB := b1_ hb
    clear hb ho0
    obtain ⟨Ao14, co14, eo14⟩ := Kd.R_slice HO703.out
    (first | subst eo14 | (injection eo14 with f1_ f2_ f3_; have f4_ := f1_.symm; have f5_ := f3_.symm; clear f1_ f2_ f3_; subst f4_; subst f5_))
    obtain ⟨Ao15, co15, eo15⟩ := Kd.R_slice HO700.out
    (first | subst eo15 | (injection eo15 with f1_ f2_ f3_; have f4_ := f1_.symm; have f5_ := f3_.symm; clear f1_ f2_ f3_; subst f4_; subst f5_))
    refine hK.out _ _ ⟨cz0_ BK695, cz1_ BK695⟩ (fun hHeld => ?_)
    clear hK K
    refine no_ (some 13) ?_
    refine pu_ 6 (some 14) (bl_ 9 127) HT_ ?_
    refine on_ 7 (none) (bl_ 9 255) HT_ (fun K hK => ?_)
    have hs16 : w13.cell? ⟨gb696, 0, none⟩ = some (.slice none 0 0) := cz0_ BK696
    have hfs16 := blk_frozen BK696.out 0
    have hns16_0 := NB695_696.out
    have hms16_0 := NB696_695.out
    have hs17 : w13.cell? ⟨gb696, 1, none⟩ = some (.slice none 0 0) := cz1_ BK696
    have hfs17 := blk_frozen BK696.out 1
    have hns17_0 := NB695_696.out
    have hms17_0 := NB696_695.out
    refine skip_ (w1 := ?_) (by rfl) rfl ?_ ?_
    rotate_left
    · go_simp
      rfl
    refine hK.out _ _ ⟨((cell_far (p := ⟨gb696, _, none⟩) NB695_696.out _).trans (((cell_far (p := ⟨gb696, _, none⟩) NB695_696.out _).trans (hHeld.1)))), ((cell_far (p := ⟨gb696, _, none⟩) NB695_696.out _).trans (((cell_far (p := ⟨gb696, _, none⟩) NB695_696.out _).trans (hHeld.2))))⟩ (fun hHeld => ?_)
    clear hK K
    refine pu_ 8 (some 3) (bl_ 9 511) HT_ ?_
    refine done_ (done_of HT_.out (by kernel_rfl)) ?_
    try go_wp2
    refine bodyPost_ret (results_ct rfl _ _ gb696 33 #[.slice Ao15 t698.length co15, .slice Ao14 t701.length co14] (0, 0) _ rfl qp_ Try.underlying33 rfl (by kernel_rfl)) rfl ?_
    exact ⟨_, _, qb_, (rw_ (Kd.R_mono (fa_ HO700 BK696) (fun _ hk => hk.2))), (rw_ (Kd.R_mono (fa_ HO703 BK696) (fun _ hk => hk.2))), hB_⟩
  · replace c3 := Bool.eq_false_iff.mpr c3
    subst c3
    have H1 : (some (([] : List Int), ([] : List Int), false)) = some (r1, r2, r3) := by rw [if_neg (show ¬ (false = true) by decide)] at H; exact H
    clear H
    have H := H1
    clear H1
    simp only [Option.some.injEq, Prod.mk.injEq] at H
    obtain ⟨rfl, rfl, rfl⟩ := H
    go_enter Try.func116, Try.ntmps116
    go_wp2_with (first | ((with_reducible refine gate_dst (N := 1) rfl ?_); refine bx_ 1 #[.slice A0_0 l0_0.length c0_0, .slice A0_1 l0_1.length c0_1] 33 ?_; intro gb695 hg w18 hbox hb; have BK695 := Aside0.mk hbox; have GW695 := gw_ w hg; have GE695 := GW695; replace HB := b1_ hb; clear hb hbox hg) | ((with_reducible refine gate_dst (N := 2) rfl ?_); refine bx_ 2 #[.slice none 0 0, .slice none 0 0] 33 ?_; intro gb696 hg w19 hbox hb; have BK696 := Aside0.mk hbox; have GW696 := gw_ w hg; have GE696 := GW696; replace HB := b1_ hb; have NB695_696 := gN_ BK695 hg; have NB696_695 := gP_ BK695 hg; replace BK695 := bb_ BK695 hb; clear hb hbox hg; have hnb20 := NB695_696.out; have hnc20 := NB696_695.out; obtain ⟨hcz21_0, hcz21_1, hfz21_0, hfz21_1⟩ := c2_ BK695) | ((with_reducible refine gate_callee (f := 19) rfl ?_); refine gL_ (some 5) Try.func19 #[.agg #[.slice A0_0 l0_0.length c0_0, .slice A0_1 l0_1.length c0_1]] rfl qa_ ?_; (with_reducible refine (impl_SurfaceOk.calls k _ _ l0_0 _ _ l0_1 false _ (cb_ HR0_0) HC0_0.out (cb_ HR0_1) HC0_1.out A2.out).mono ?_); rintro e w22 ⟨rfl, hb⟩; refine ⟨_, rfl, ?_⟩; replace BK695 := bb_ BK695 hb; replace BK696 := bb_ BK696 hb; replace HB := b1_ hb; clear hb; obtain ⟨hcz23_0, hcz23_1, hfz23_0, hfz23_1⟩ := c2_ BK696))
    refine bodyPost_ret (results_ct rfl _ _ gb696 33 #[.slice none 0 0, .slice none 0 0] (0, 0) _ rfl qp_ Try.underlying33 rfl (by kernel_rfl)) rfl ?_
    exact ⟨_, _, qb_, by first | exact Kd.R_nil _ _ _ _ _ | exact Kd.N_nil _ _ _ _ _ | exact Kd.V_nil _ _ _ _ _ | exact Kd.Q_nil _ _ _ _ _ | exact Kd.S_nil _ _ _ _ _, by first | exact Kd.R_nil _ _ _ _ _ | exact Kd.N_nil _ _ _ _ _ | exact Kd.V_nil _ _ _ _ _ | exact Kd.Q_nil _ _ _ _ _ | exact Kd.S_nil _ _ _ _ _, hB_⟩
end Go.Proofs.Ytoijcallajegfaa.A
end
section
namespace Go.Proofs.Ytoijcallajegfaa.A
open Go.RowKit Go.Proofs.YtoijcallajegfaaW.PrintWords Go.Proofs.YtoijcallajegfaaW.PrintLast Go.Proofs.YtoijcallajegfaaW.PrintMore
attribute [local go_sem] max2_int min2_int max_two min_two max_three min_three max_four min_four
set_option linter.unusedVariables false
set_option linter.unusedSimpArgs false
def impl_UnturnSurface.f (k : Nat) (l0_0 : List Int) (l0_1 : List Int) : Option (List Int × List Int × Bool) := (impl_SurfaceOk.f k l0_0 l0_1).bind fun t706 => (if t706 = true then ((impl_copyInts.f l0_1).bind fun t707 => ((impl_InversePerm.f k l0_0).bind fun t710 => (some (t707, t710, true)))) else (some (([] : List Int), ([] : List Int), false)))
theorem impl_UnturnSurface.mono : ∀ a0 a1 k, LeO (impl_UnturnSurface.f k a0 a1) (impl_UnturnSurface.f (k + 1) a0 a1) := by
  intro a0 a1 k
  unfold impl_UnturnSurface.f
  repeat' first|exact impl_InversePerm.mono _ _|exact impl_SurfaceOk.mono _ _ _|exact lo_|refine LeO.ite ?_ ?_|refine LeO.bind ?_ (fun _ => ?_)
def impl_UnturnSurface.T3 : Bool × List (List Nat × List Nat) := (true, [([], []), ([0], [0]), ([1], [1]), ([], []), ([3], [3]), ([4, 2], [4]), ([2, 5], [2, 5]), ([6, 5, 0, 1, 2, 3, 4, 5, 6], [6]), ([7, 0, 1, 2, 3, 4, 5, 6, 7], [])])
def impl_UnturnSurface.B3 : List Nat := [0, 1, 3, 0, 8, 31, 63, 127, 255]
theorem impl_UnturnSurface.tab3 : rtab .any (opsOf Try.f117 3) = impl_UnturnSurface.T3 := by kernel_rfl
theorem impl_UnturnSurface.bits3 : waitsOk impl_UnturnSurface.T3.2 impl_UnturnSurface.B3 = true := by kernel_rfl
set_option maxHeartbeats 8000000 in
set_option maxRecDepth 100000 in
theorem impl_UnturnSurface.calls (k : Nat) (A0_0 : Option Addr) (c0_0 : Nat) (l0_0 : List Int) (A0_1 : Option Addr) (c0_1 : Nat) (l0_1 : List Int) (r1 : List Int) (r2 : List Int) (r3 : Bool) (w : World) (hr0_0 : Kd.C (Kd.int .i64) w A0_0 l0_0.length l0_0) (hc0_0 : l0_0.length ≤ c0_0) (hr0_1 : Kd.C (Kd.int .i64) w A0_1 l0_1.length l0_1) (hc0_1 : l0_1.length ≤ c0_1) (h : impl_UnturnSurface.f k l0_0 l0_1 = some (r1, r2, r3)) :
    Calls Try.prog 117 #[.agg #[.slice A0_0 l0_0.length c0_0, .slice A0_1 l0_1.length c0_1]] w fun e w' => ∃ v0_ v1_ : Value, e = .returned (.tuple #[.agg #[v0_, v1_], .bool r3]) ∧ Kd.R (Kd.int .i64) 3 w' w.heap.size (fun k_ => some k_ ≠ (v1_ : Value).ownBlock) v0_ r1 ∧ Kd.R (Kd.int .i64) 3 w' w.heap.size (fun k_ => some k_ ≠ (v0_ : Value).ownBlock) v1_ r2 ∧ Below w.heap.size w w' := by
  have hu33 := Try.underlying33
  have HR0_0 := Aside0.mk hr0_0
  have HC0_0 := Aside0.mk hc0_0
  clear hr0_0 hc0_0
  have HR0_1 := Aside0.mk hr0_1
  have HC0_1 := Aside0.mk hc0_1
  clear hr0_1 hc0_1
  have HB := Aside0.mk (Below.refl w.heap.size w)
  have H := h
  unfold impl_UnturnSurface.f at H
  clear h
  obtain ⟨t706, A2, H⟩ := bi_ H
  by_cases c3 : t706 = true
  · subst c3
    rw [if_pos rfl] at H
    obtain ⟨t707, A4, H⟩ := bi_ H
    obtain ⟨t710, A5, H⟩ := bi_ H
    simp only [Option.some.injEq, Prod.mk.injEq] at H
    obtain ⟨rfl, rfl, rfl⟩ := H
    go_enter Try.func117, Try.ntmps117
    try go_wp2_with (first | ((with_reducible refine gate_dst (N := 1) rfl ?_); refine bx_ 1 #[.slice A0_0 l0_0.length c0_0, .slice A0_1 l0_1.length c0_1] 33 ?_; intro gb704 hg w6 hbox hb; have BK704 := Aside0.mk hbox; have GW704 := gw_ w hg; have GE704 := GW704; replace HB := b1_ hb; clear hb hbox hg) | ((with_reducible refine gate_dst (N := 2) rfl ?_); refine bx_ 2 #[.slice none 0 0, .slice none 0 0] 33 ?_; intro gb705 hg w7 hbox hb; have BK705 := Aside0.mk hbox; have GW705 := gw_ w hg; have GE705 := GW705; replace HB := b1_ hb; have NB704_705 := gN_ BK704 hg; have NB705_704 := gP_ BK704 hg; replace BK704 := bb_ BK704 hb; clear hb hbox hg; have hnb8 := NB704_705.out; have hnc8 := NB705_704.out; obtain ⟨hcz9_0, hcz9_1, hfz9_0, hfz9_1⟩ := c2_ BK704) | ((with_reducible refine gate_callee (f := 19) rfl ?_); refine gL_ (some 5) Try.func19 #[.agg #[.slice A0_0 l0_0.length c0_0, .slice A0_1 l0_1.length c0_1]] rfl qa_ ?_; (with_reducible refine (impl_SurfaceOk.calls k _ _ l0_0 _ _ l0_1 true _ (cb_ HR0_0) HC0_0.out (cb_ HR0_1) HC0_1.out A2.out).mono ?_); rintro e w10 ⟨rfl, hb⟩; refine ⟨_, rfl, ?_⟩; replace BK704 := bb_ BK704 hb; replace BK705 := bb_ BK705 hb; replace HB := b1_ hb; clear hb))
    replace BK704 := Aside0.mk (blk_drew BK704.out)
    replace BK705 := Aside0.mk (blk_drew BK705.out)
    replace HB := Aside0.mk (below_drew1 HB.out)
    refine start_ (n := 9) (S := fun w' => w'.cell? ⟨gb704, 0, none⟩ = some (.slice A0_0 l0_0.length c0_0) ∧ w'.cell? ⟨gb704, 1, none⟩ = some (.slice A0_1 l0_1.length c0_1)) (ds := []) (bl_ 9 0) (by kernel_rfl) rfl (by kernel_rfl) ⟨cz0_ BK704, cz1_ BK704⟩ (fun hHeld => ?_); refine with_tabW impl_UnturnSurface.tab3 impl_UnturnSurface.bits3 (fun HT_ HW_ => ?_)
    generalize w10.drew = w11 at BK704 BK705 HB hHeld ⊢
    refine pu_ 0 (some 8) (bl_ 9 1) HT_ ?_
    refine pu_ 3 (some 11) (bl_ 9 9) HT_ ?_
    refine ta_ 1 (some 9) (bl_ 9 11) HT_ HW_ hHeld ?_
    refine ta_ 4 (some 12) (bl_ 9 27) HT_ HW_ hHeld ?_
    refine on_ 2 (some 10) (bl_ 9 31) HT_ (fun K hK => ?_)
    refine gO_ Try.func100 #[.slice A0_1 l0_1.length c0_1] (by rfl) rfl rfl qa_ ?_
    with_reducible refine (impl_copyInts.calls _ _ l0_1 t707 _ (cb_ HR0_1) HC0_1.out A4.out).mono ?_
    rintro e w12 ⟨v708, rfl, ho0, hb⟩
    refine ⟨_, rfl, ?_⟩
    have HO709 := rl_ w ho0
    replace BK704 := bb_ BK704 hb
    replace BK705 := bb_ BK705 hb
    replace HB := b1_ hb
    clear hb ho0
    refine hK.out _ _ ⟨cz0_ BK704, cz1_ BK704⟩ (fun hHeld => ?_)
    clear hK K
    refine no_ (some 10) ?_
    refine on_ 5 (some 13) (bl_ 9 63) HT_ (fun K hK => ?_)
    refine gO_ Try.func122 #[.slice A0_0 l0_0.length c0_0] (by rfl) rfl rfl qa_ ?_
    with_reducible refine (impl_InversePerm.calls k _ _ l0_0 t710 _ (cb_ HR0_0) HC0_0.out A5.out).mono ?_
    rintro e w13 ⟨v711, rfl, ho0, hb⟩
    refine ⟨_, rfl, ?_⟩
    have HO712 := Aside0.mk (Kd.R_lower (Kd.R_new' ho0 (Kd.R_lt (rr_ HO709))) (below_size hB_))
    replace HO709 := Aside0.mk (Kd.R_elder' (rr_ HO709) (Kd.R_base ho0) hb)
    replace BK704 := bb_ BK704 hb
    replace BK705 := bb_ BK705 hb
    replace HB := b1_ hb
    clear hb ho0
    obtain ⟨Ao14, co14, eo14⟩ := Kd.R_slice HO712.out
    (first | subst eo14 | (injection eo14 with f1_ f2_ f3_; have f4_ := f1_.symm; have f5_ := f3_.symm; clear f1_ f2_ f3_; subst f4_; subst f5_))
    obtain ⟨Ao15, co15, eo15⟩ := Kd.R_slice HO709.out
    (first | subst eo15 | (injection eo15 with f1_ f2_ f3_; have f4_ := f1_.symm; have f5_ := f3_.symm; clear f1_ f2_ f3_; subst f4_; subst f5_))
    refine hK.out _ _ ⟨cz0_ BK704, cz1_ BK704⟩ (fun hHeld => ?_)
    clear hK K
    refine no_ (some 13) ?_
    refine pu_ 6 (some 14) (bl_ 9 127) HT_ ?_
    refine on_ 7 (none) (bl_ 9 255) HT_ (fun K hK => ?_)
    have hs16 : w13.cell? ⟨gb705, 0, none⟩ = some (.slice none 0 0) := cz0_ BK705
    have hfs16 := blk_frozen BK705.out 0
    have hns16_0 := NB704_705.out
    have hms16_0 := NB705_704.out
    have hs17 : w13.cell? ⟨gb705, 1, none⟩ = some (.slice none 0 0) := cz1_ BK705
    have hfs17 := blk_frozen BK705.out 1
    have hns17_0 := NB704_705.out
    have hms17_0 := NB705_704.out
    refine skip_ (w1 := ?_) (by rfl) rfl ?_ ?_
    rotate_left
    · go_simp
      rfl
    refine hK.out _ _ ⟨((cell_far (p := ⟨gb705, _, none⟩) NB704_705.out _).trans (((cell_far (p := ⟨gb705, _, none⟩) NB704_705.out _).trans (hHeld.1)))), ((cell_far (p := ⟨gb705, _, none⟩) NB704_705.out _).trans (((cell_far (p := ⟨gb705, _, none⟩) NB704_705.out _).trans (hHeld.2))))⟩ (fun hHeld => ?_)
    clear hK K
    refine pu_ 8 (some 3) (bl_ 9 511) HT_ ?_
    refine done_ (done_of HT_.out (by kernel_rfl)) ?_
    try go_wp2
    refine bodyPost_ret (results_ct rfl _ _ gb705 33 #[.slice Ao15 t707.length co15, .slice Ao14 t710.length co14] (0, 0) _ rfl qp_ Try.underlying33 rfl (by kernel_rfl)) rfl ?_
    exact ⟨_, _, qb_, (rw_ (Kd.R_mono (fa_ HO709 BK705) (fun _ hk => hk.2))), (rw_ (Kd.R_mono (fa_ HO712 BK705) (fun _ hk => hk.2))), hB_⟩
  · replace c3 := Bool.eq_false_iff.mpr c3
    subst c3
    have H1 : (some (([] : List Int), ([] : List Int), false)) = some (r1, r2, r3) := by rw [if_neg (show ¬ (false = true) by decide)] at H; exact H
    clear H
    have H := H1
    clear H1
    simp only [Option.some.injEq, Prod.mk.injEq] at H
    obtain ⟨rfl, rfl, rfl⟩ := H
    go_enter Try.func117, Try.ntmps117
    go_wp2_with (first | ((with_reducible refine gate_dst (N := 1) rfl ?_); refine bx_ 1 #[.slice A0_0 l0_0.length c0_0, .slice A0_1 l0_1.length c0_1] 33 ?_; intro gb704 hg w18 hbox hb; have BK704 := Aside0.mk hbox; have GW704 := gw_ w hg; have GE704 := GW704; replace HB := b1_ hb; clear hb hbox hg) | ((with_reducible refine gate_dst (N := 2) rfl ?_); refine bx_ 2 #[.slice none 0 0, .slice none 0 0] 33 ?_; intro gb705 hg w19 hbox hb; have BK705 := Aside0.mk hbox; have GW705 := gw_ w hg; have GE705 := GW705; replace HB := b1_ hb; have NB704_705 := gN_ BK704 hg; have NB705_704 := gP_ BK704 hg; replace BK704 := bb_ BK704 hb; clear hb hbox hg; have hnb20 := NB704_705.out; have hnc20 := NB705_704.out; obtain ⟨hcz21_0, hcz21_1, hfz21_0, hfz21_1⟩ := c2_ BK704) | ((with_reducible refine gate_callee (f := 19) rfl ?_); refine gL_ (some 5) Try.func19 #[.agg #[.slice A0_0 l0_0.length c0_0, .slice A0_1 l0_1.length c0_1]] rfl qa_ ?_; (with_reducible refine (impl_SurfaceOk.calls k _ _ l0_0 _ _ l0_1 false _ (cb_ HR0_0) HC0_0.out (cb_ HR0_1) HC0_1.out A2.out).mono ?_); rintro e w22 ⟨rfl, hb⟩; refine ⟨_, rfl, ?_⟩; replace BK704 := bb_ BK704 hb; replace BK705 := bb_ BK705 hb; replace HB := b1_ hb; clear hb; obtain ⟨hcz23_0, hcz23_1, hfz23_0, hfz23_1⟩ := c2_ BK705))
    refine bodyPost_ret (results_ct rfl _ _ gb705 33 #[.slice none 0 0, .slice none 0 0] (0, 0) _ rfl qp_ Try.underlying33 rfl (by kernel_rfl)) rfl ?_
    exact ⟨_, _, qb_, by first | exact Kd.R_nil _ _ _ _ _ | exact Kd.N_nil _ _ _ _ _ | exact Kd.V_nil _ _ _ _ _ | exact Kd.Q_nil _ _ _ _ _ | exact Kd.S_nil _ _ _ _ _, by first | exact Kd.R_nil _ _ _ _ _ | exact Kd.N_nil _ _ _ _ _ | exact Kd.V_nil _ _ _ _ _ | exact Kd.Q_nil _ _ _ _ _ | exact Kd.S_nil _ _ _ _ _, hB_⟩
end Go.Proofs.Ytoijcallajegfaa.A
end
section
namespace Go.Proofs.Ytoijcallajegfaa.A
open Go.RowKit Go.Proofs.YtoijcallajegfaaW.PrintWords Go.Proofs.YtoijcallajegfaaW.PrintLast Go.Proofs.YtoijcallajegfaaW.PrintMore
attribute [local go_sem] max2_int min2_int max_two min_two max_three min_three max_four min_four
set_option linter.unusedVariables false
set_option linter.unusedSimpArgs false
def impl_letterSurface.f (k : Nat) (l0_0 : List Int) (l0_1 : List Int) (a1 : Int) : Option (List Int × List Int) := if a1 = 84 then ((impl_ShearSurface.f k l0_0 l0_1).bind fun bt716 => (some (bt716.1, bt716.2.1))) else (if a1 = 116 then ((impl_UnshearSurface.f k l0_0 l0_1).bind fun bt723 => (some (bt723.1, bt723.2.1))) else (if a1 = 83 then ((impl_TurnSurface.f k l0_0 l0_1).bind fun bt730 => (some (bt730.1, bt730.2.1))) else (if a1 = 115 then ((impl_UnturnSurface.f k l0_0 l0_1).bind fun bt737 => (some (bt737.1, bt737.2.1))) else (some (([] : List Int), ([] : List Int))))))
theorem impl_letterSurface.mono : ∀ a0 a1 a2 k, LeO (impl_letterSurface.f k a0 a1 a2) (impl_letterSurface.f (k + 1) a0 a1 a2) := by
  intro a0 a1 a2 k
  unfold impl_letterSurface.f
  repeat' first|exact impl_ShearSurface.mono _ _ _|exact impl_TurnSurface.mono _ _ _|exact impl_UnshearSurface.mono _ _ _|exact impl_UnturnSurface.mono _ _ _|exact lo_|refine LeO.ite ?_ ?_|refine LeO.bind ?_ (fun _ => ?_)
set_option maxHeartbeats 8000000 in
set_option maxRecDepth 100000 in
theorem impl_letterSurface.calls (k : Nat) (A0_0 : Option Addr) (c0_0 : Nat) (l0_0 : List Int) (A0_1 : Option Addr) (c0_1 : Nat) (l0_1 : List Int) (a1 : Int) (r1 : List Int) (r2 : List Int) (w : World) (hr0_0 : Kd.C (Kd.int .i64) w A0_0 l0_0.length l0_0) (hc0_0 : l0_0.length ≤ c0_0) (hr0_1 : Kd.C (Kd.int .i64) w A0_1 l0_1.length l0_1) (hc0_1 : l0_1.length ≤ c0_1) (h : impl_letterSurface.f k l0_0 l0_1 a1 = some (r1, r2)) :
    Calls Try.prog 70 #[.agg #[.slice A0_0 l0_0.length c0_0, .slice A0_1 l0_1.length c0_1], .int .u8 a1] w fun e w' => ∃ v0_ v1_ : Value, e = .returned (.agg #[v0_, v1_]) ∧ Kd.R (Kd.int .i64) 3 w' w.heap.size (fun k_ => some k_ ≠ (v1_ : Value).ownBlock) v0_ r1 ∧ Kd.R (Kd.int .i64) 3 w' w.heap.size (fun k_ => some k_ ≠ (v0_ : Value).ownBlock) v1_ r2 ∧ Below w.heap.size w w' := by
  have hu33 := Try.underlying33
  have HR0_0 := Aside0.mk hr0_0
  have HC0_0 := Aside0.mk hc0_0
  clear hr0_0 hc0_0
  have HR0_1 := Aside0.mk hr0_1
  have HC0_1 := Aside0.mk hc0_1
  clear hr0_1 hc0_1
  have HB := Aside0.mk (Below.refl w.heap.size w)
  have H := h
  unfold impl_letterSurface.f at H
  clear h
  by_cases c3 : a1 = 84
  · rw [if_pos c3] at H
    have c3b0 : (a1 == 84) = true := beq_iff_eq.mpr c3
    have c3b1 : (a1 != 84) = false := bne_eq_false_iff_eq.mpr c3
    clear c3
    obtain ⟨⟨t716, t719, t722⟩, A4, H⟩ := bi_ H
    try dsimp only at H
    simp only [Option.some.injEq, Prod.mk.injEq] at H
    obtain ⟨rfl, rfl⟩ := H
    go_enter Try.func70, Try.ntmps70
    go_wp2_with (first | ((with_reducible refine gate_dst (N := 2) rfl ?_); refine bx_ 2 #[.slice A0_0 l0_0.length c0_0, .slice A0_1 l0_1.length c0_1] 33 ?_; intro gb713 hg w5 hbox hb; have BK713 := Aside0.mk hbox; have GW713 := gw_ w hg; have GE713 := GW713; replace HB := b1_ hb; clear hb hbox hg) | ((with_reducible refine gate_dst (N := 4) rfl ?_); refine bx_ 4 #[.slice none 0 0, .slice none 0 0] 33 ?_; intro gb714 hg w6 hbox hb; have BK714 := Aside0.mk hbox; have GW714 := gw_ w hg; have GE714 := GW714; replace HB := b1_ hb; have NB713_714 := gN_ BK713 hg; have NB714_713 := gP_ BK713 hg; replace BK713 := bb_ BK713 hb; clear hb hbox hg) | ((with_reducible refine gate_dst (N := 5) rfl ?_); refine bx_ 5 #[.slice none 0 0, .slice none 0 0] 33 ?_; intro gb715 hg w7 hbox hb; have BK715 := Aside0.mk hbox; have GW715 := gw_ w hg; have GE715 := GW715; replace HB := b1_ hb; have NB713_715 := gN_ BK713 hg; have NB715_713 := gP_ BK713 hg; replace BK713 := bb_ BK713 hb; have NB714_715 := gN_ BK714 hg; have NB715_714 := gP_ BK714 hg; replace BK714 := bb_ BK714 hb; clear hb hbox hg; have hnb8 := NB715_713.out; have hnc8 := NB713_715.out; have hnb9 := NB715_714.out; have hnc9 := NB714_715.out; obtain ⟨hcz10_0, hcz10_1, hfz10_0, hfz10_1⟩ := c2_ BK715; have hnb11 := NB713_714.out; have hnc11 := NB714_713.out; obtain ⟨hcz12_0, hcz12_1, hfz12_0, hfz12_1⟩ := c2_ BK713) | ((with_reducible refine gate_callee (f := 114) rfl ?_); refine gL_ (some 12) Try.func114 #[.agg #[.slice A0_0 l0_0.length c0_0, .slice A0_1 l0_1.length c0_1]] rfl qa_ ?_; (with_reducible refine (impl_ShearSurface.calls k _ _ l0_0 _ _ l0_1 t716 t719 t722 _ (Kd.C_below HR0_0.out hB_) HC0_0.out (Kd.C_below HR0_1.out hB_) HC0_1.out A4.out).mono ?_); rintro e w13 ⟨v717, v720, rfl, ho0, ho1, hb⟩; refine ⟨_, rfl, ?_⟩; have HO718 := rl_ w ho0; have HO721 := rl_ w ho1; replace BK713 := Aside0.mk (blk_below (g := gb713) (o := .cells #[.slice A0_0 l0_0.length c0_0, .slice A0_1 l0_1.length c0_1] 33 (0, 0)) (by (with_reducible repeat (first | refine blk_drewN ?_ _ | refine blk_drew ?_ | refine blk_alloc ?_ _)); refine blk_far ?_ NB713_715.out _; (with_reducible repeat (first | refine blk_drewN ?_ _ | refine blk_drew ?_ | refine blk_alloc ?_ _)); refine blk_far ?_ NB713_715.out _; (with_reducible repeat (first | refine blk_drewN ?_ _ | refine blk_drew ?_ | refine blk_alloc ?_ _)); exact BK713.out) hb); replace BK714 := Aside0.mk (blk_below (g := gb714) (o := .cells #[.slice none 0 0, .slice none 0 0] 33 (0, 0)) (by (with_reducible repeat (first | refine blk_drewN ?_ _ | refine blk_drew ?_ | refine blk_alloc ?_ _)); refine blk_far ?_ NB714_715.out _; (with_reducible repeat (first | refine blk_drewN ?_ _ | refine blk_drew ?_ | refine blk_alloc ?_ _)); refine blk_far ?_ NB714_715.out _; (with_reducible repeat (first | refine blk_drewN ?_ _ | refine blk_drew ?_ | refine blk_alloc ?_ _)); exact BK714.out) hb); replace BK715 := Aside0.mk (blk_below (g := gb715) (o := .cells #[.slice none 0 0, .slice none 0 0] 33 (0, 0)) qp_ hb); replace HB := b1_ hb; clear hb ho0 ho1; obtain ⟨Ao14, co14, eo14⟩ := Kd.R_slice HO718.out; subst eo14; obtain ⟨hcz15_0, hcz15_1, hfz15_0, hfz15_1⟩ := c2_ BK715; obtain ⟨Ao16, co16, eo16⟩ := Kd.R_slice HO721.out; subst eo16; obtain ⟨hcz17_0, hcz17_1, hfz17_0, hfz17_1⟩ := c2_ BK714))
    refine bodyPost_ret (results_cell_row rfl _ _ gb714 33 #[.slice Ao14 t716.length co14, .slice Ao16 t719.length co16] (0, 0) _ rfl (by (with_reducible repeat (first | refine blk_drewN ?_ _ | refine blk_drew ?_ | refine blk_alloc ?_ _)); refine blk_put (cs := #[.slice Ao14 t716.length co14, .slice none 0 0]) ?_ 1 _ rfl; (with_reducible repeat (first | refine blk_drewN ?_ _ | refine blk_drew ?_ | refine blk_alloc ?_ _)); refine blk_put (cs := #[.slice none 0 0, .slice none 0 0]) ?_ 0 _ rfl; (with_reducible repeat (first | refine blk_drewN ?_ _ | refine blk_drew ?_ | refine blk_alloc ?_ _)); refine blk_far ?_ NB714_715.out _; (with_reducible repeat (first | refine blk_drewN ?_ _ | refine blk_drew ?_ | refine blk_alloc ?_ _)); refine blk_far ?_ NB714_715.out _; (with_reducible repeat (first | refine blk_drewN ?_ _ | refine blk_drew ?_ | refine blk_alloc ?_ _)); exact BK714.out) Try.underlying33 rfl (by kernel_rfl)) rfl ?_
    exact ⟨_, _, qb_, (rw_ (Kd.R_mono (Kd.R_far (p := ⟨gb714, 1, none⟩) (Kd.R_far (p := ⟨gb714, 0, none⟩) (Kd.R_far (p := ⟨gb715, 1, none⟩) (Kd.R_far (p := ⟨gb715, 0, none⟩) (Kd.R_types (Kd.R_types HO718.out BK715.out (by decide)) BK714.out (by decide)) (fun _ hk => hk.1.2) (.slice Ao14 t716.length co14)) (fun _ hk => hk.1.2) (.slice Ao16 t719.length co16)) (fun _ hk => hk.2) (.slice Ao14 t716.length co14)) (fun _ hk => hk.2) (.slice Ao16 t719.length co16)) (fun _ hk => hk.1.1))), (rw_ (Kd.R_mono (Kd.R_far (p := ⟨gb714, 1, none⟩) (Kd.R_far (p := ⟨gb714, 0, none⟩) (Kd.R_far (p := ⟨gb715, 1, none⟩) (Kd.R_far (p := ⟨gb715, 0, none⟩) (Kd.R_types (Kd.R_types HO721.out BK715.out (by decide)) BK714.out (by decide)) (fun _ hk => hk.1.2) (.slice Ao14 t716.length co14)) (fun _ hk => hk.1.2) (.slice Ao16 t719.length co16)) (fun _ hk => hk.2) (.slice Ao14 t716.length co14)) (fun _ hk => hk.2) (.slice Ao16 t719.length co16)) (fun _ hk => hk.1.1))), hB_⟩
  · rw [if_neg c3] at H
    have c3b0 : (a1 == 84) = false := beq_eq_false_iff_ne.mpr c3
    have c3b1 : (a1 != 84) = true := bne_iff_ne.mpr c3
    by_cases c18 : a1 = 116
    · rw [if_pos c18] at H
      have c18b0 : (a1 == 116) = true := beq_iff_eq.mpr c18
      have c18b1 : (a1 != 116) = false := bne_eq_false_iff_eq.mpr c18
      clear c18
      obtain ⟨⟨t723, t726, t729⟩, A19, H⟩ := bi_ H
      try dsimp only at H
      simp only [Option.some.injEq, Prod.mk.injEq] at H
      obtain ⟨rfl, rfl⟩ := H
      go_enter Try.func70, Try.ntmps70
      go_wp2_with (first | ((with_reducible refine gate_dst (N := 2) rfl ?_); refine bx_ 2 #[.slice A0_0 l0_0.length c0_0, .slice A0_1 l0_1.length c0_1] 33 ?_; intro gb713 hg w20 hbox hb; have BK713 := Aside0.mk hbox; have GW713 := gw_ w hg; have GE713 := GW713; replace HB := b1_ hb; clear hb hbox hg) | ((with_reducible refine gate_dst (N := 4) rfl ?_); refine bx_ 4 #[.slice none 0 0, .slice none 0 0] 33 ?_; intro gb714 hg w21 hbox hb; have BK714 := Aside0.mk hbox; have GW714 := gw_ w hg; have GE714 := GW714; replace HB := b1_ hb; have NB713_714 := gN_ BK713 hg; have NB714_713 := gP_ BK713 hg; replace BK713 := bb_ BK713 hb; clear hb hbox hg) | ((with_reducible refine gate_dst (N := 5) rfl ?_); refine bx_ 5 #[.slice none 0 0, .slice none 0 0] 33 ?_; intro gb715 hg w22 hbox hb; have BK715 := Aside0.mk hbox; have GW715 := gw_ w hg; have GE715 := GW715; replace HB := b1_ hb; have NB713_715 := gN_ BK713 hg; have NB715_713 := gP_ BK713 hg; replace BK713 := bb_ BK713 hb; have NB714_715 := gN_ BK714 hg; have NB715_714 := gP_ BK714 hg; replace BK714 := bb_ BK714 hb; clear hb hbox hg; have hnb23 := NB715_713.out; have hnc23 := NB713_715.out; have hnb24 := NB715_714.out; have hnc24 := NB714_715.out; obtain ⟨hcz25_0, hcz25_1, hfz25_0, hfz25_1⟩ := c2_ BK715; have hnb26 := NB713_714.out; have hnc26 := NB714_713.out; obtain ⟨hcz27_0, hcz27_1, hfz27_0, hfz27_1⟩ := c2_ BK713) | ((with_reducible refine gate_callee (f := 115) rfl ?_); refine gL_ (some 19) Try.func115 #[.agg #[.slice A0_0 l0_0.length c0_0, .slice A0_1 l0_1.length c0_1]] rfl qa_ ?_; (with_reducible refine (impl_UnshearSurface.calls k _ _ l0_0 _ _ l0_1 t723 t726 t729 _ (Kd.C_below HR0_0.out hB_) HC0_0.out (Kd.C_below HR0_1.out hB_) HC0_1.out A19.out).mono ?_); rintro e w28 ⟨v724, v727, rfl, ho0, ho1, hb⟩; refine ⟨_, rfl, ?_⟩; have HO725 := rl_ w ho0; have HO728 := rl_ w ho1; replace BK713 := Aside0.mk (blk_below (g := gb713) (o := .cells #[.slice A0_0 l0_0.length c0_0, .slice A0_1 l0_1.length c0_1] 33 (0, 0)) (by (with_reducible repeat (first | refine blk_drewN ?_ _ | refine blk_drew ?_ | refine blk_alloc ?_ _)); refine blk_far ?_ NB713_715.out _; (with_reducible repeat (first | refine blk_drewN ?_ _ | refine blk_drew ?_ | refine blk_alloc ?_ _)); refine blk_far ?_ NB713_715.out _; (with_reducible repeat (first | refine blk_drewN ?_ _ | refine blk_drew ?_ | refine blk_alloc ?_ _)); exact BK713.out) hb); replace BK714 := Aside0.mk (blk_below (g := gb714) (o := .cells #[.slice none 0 0, .slice none 0 0] 33 (0, 0)) (by (with_reducible repeat (first | refine blk_drewN ?_ _ | refine blk_drew ?_ | refine blk_alloc ?_ _)); refine blk_far ?_ NB714_715.out _; (with_reducible repeat (first | refine blk_drewN ?_ _ | refine blk_drew ?_ | refine blk_alloc ?_ _)); refine blk_far ?_ NB714_715.out _; (with_reducible repeat (first | refine blk_drewN ?_ _ | refine blk_drew ?_ | refine blk_alloc ?_ _)); exact BK714.out) hb); replace BK715 := Aside0.mk (blk_below (g := gb715) (o := .cells #[.slice none 0 0, .slice none 0 0] 33 (0, 0)) qp_ hb); replace HB := b1_ hb; clear hb ho0 ho1; obtain ⟨Ao29, co29, eo29⟩ := Kd.R_slice HO725.out; subst eo29; obtain ⟨hcz30_0, hcz30_1, hfz30_0, hfz30_1⟩ := c2_ BK715; obtain ⟨Ao31, co31, eo31⟩ := Kd.R_slice HO728.out; subst eo31; obtain ⟨hcz32_0, hcz32_1, hfz32_0, hfz32_1⟩ := c2_ BK714))
      refine bodyPost_ret (results_cell_row rfl _ _ gb714 33 #[.slice Ao29 t723.length co29, .slice Ao31 t726.length co31] (0, 0) _ rfl (by (with_reducible repeat (first | refine blk_drewN ?_ _ | refine blk_drew ?_ | refine blk_alloc ?_ _)); refine blk_put (cs := #[.slice Ao29 t723.length co29, .slice none 0 0]) ?_ 1 _ rfl; (with_reducible repeat (first | refine blk_drewN ?_ _ | refine blk_drew ?_ | refine blk_alloc ?_ _)); refine blk_put (cs := #[.slice none 0 0, .slice none 0 0]) ?_ 0 _ rfl; (with_reducible repeat (first | refine blk_drewN ?_ _ | refine blk_drew ?_ | refine blk_alloc ?_ _)); refine blk_far ?_ NB714_715.out _; (with_reducible repeat (first | refine blk_drewN ?_ _ | refine blk_drew ?_ | refine blk_alloc ?_ _)); refine blk_far ?_ NB714_715.out _; (with_reducible repeat (first | refine blk_drewN ?_ _ | refine blk_drew ?_ | refine blk_alloc ?_ _)); exact BK714.out) Try.underlying33 rfl (by kernel_rfl)) rfl ?_
      exact ⟨_, _, qb_, (rw_ (Kd.R_mono (Kd.R_far (p := ⟨gb714, 1, none⟩) (Kd.R_far (p := ⟨gb714, 0, none⟩) (Kd.R_far (p := ⟨gb715, 1, none⟩) (Kd.R_far (p := ⟨gb715, 0, none⟩) (Kd.R_types (Kd.R_types HO725.out BK715.out (by decide)) BK714.out (by decide)) (fun _ hk => hk.1.2) (.slice Ao29 t723.length co29)) (fun _ hk => hk.1.2) (.slice Ao31 t726.length co31)) (fun _ hk => hk.2) (.slice Ao29 t723.length co29)) (fun _ hk => hk.2) (.slice Ao31 t726.length co31)) (fun _ hk => hk.1.1))), (rw_ (Kd.R_mono (Kd.R_far (p := ⟨gb714, 1, none⟩) (Kd.R_far (p := ⟨gb714, 0, none⟩) (Kd.R_far (p := ⟨gb715, 1, none⟩) (Kd.R_far (p := ⟨gb715, 0, none⟩) (Kd.R_types (Kd.R_types HO728.out BK715.out (by decide)) BK714.out (by decide)) (fun _ hk => hk.1.2) (.slice Ao29 t723.length co29)) (fun _ hk => hk.1.2) (.slice Ao31 t726.length co31)) (fun _ hk => hk.2) (.slice Ao29 t723.length co29)) (fun _ hk => hk.2) (.slice Ao31 t726.length co31)) (fun _ hk => hk.1.1))), hB_⟩
    · rw [if_neg c18] at H
      have c18b0 : (a1 == 116) = false := beq_eq_false_iff_ne.mpr c18
      have c18b1 : (a1 != 116) = true := bne_iff_ne.mpr c18
      by_cases c33 : a1 = 83
      · rw [if_pos c33] at H
        have c33b0 : (a1 == 83) = true := beq_iff_eq.mpr c33
        have c33b1 : (a1 != 83) = false := bne_eq_false_iff_eq.mpr c33
        clear c33
        obtain ⟨⟨t730, t733, t736⟩, A34, H⟩ := bi_ H
        try dsimp only at H
        simp only [Option.some.injEq, Prod.mk.injEq] at H
        obtain ⟨rfl, rfl⟩ := H
        go_enter Try.func70, Try.ntmps70
        go_wp2_with (first | ((with_reducible refine gate_dst (N := 2) rfl ?_); refine bx_ 2 #[.slice A0_0 l0_0.length c0_0, .slice A0_1 l0_1.length c0_1] 33 ?_; intro gb713 hg w35 hbox hb; have BK713 := Aside0.mk hbox; have GW713 := gw_ w hg; have GE713 := GW713; replace HB := b1_ hb; clear hb hbox hg) | ((with_reducible refine gate_dst (N := 4) rfl ?_); refine bx_ 4 #[.slice none 0 0, .slice none 0 0] 33 ?_; intro gb714 hg w36 hbox hb; have BK714 := Aside0.mk hbox; have GW714 := gw_ w hg; have GE714 := GW714; replace HB := b1_ hb; have NB713_714 := gN_ BK713 hg; have NB714_713 := gP_ BK713 hg; replace BK713 := bb_ BK713 hb; clear hb hbox hg) | ((with_reducible refine gate_dst (N := 5) rfl ?_); refine bx_ 5 #[.slice none 0 0, .slice none 0 0] 33 ?_; intro gb715 hg w37 hbox hb; have BK715 := Aside0.mk hbox; have GW715 := gw_ w hg; have GE715 := GW715; replace HB := b1_ hb; have NB713_715 := gN_ BK713 hg; have NB715_713 := gP_ BK713 hg; replace BK713 := bb_ BK713 hb; have NB714_715 := gN_ BK714 hg; have NB715_714 := gP_ BK714 hg; replace BK714 := bb_ BK714 hb; clear hb hbox hg; have hnb38 := NB715_713.out; have hnc38 := NB713_715.out; have hnb39 := NB715_714.out; have hnc39 := NB714_715.out; obtain ⟨hcz40_0, hcz40_1, hfz40_0, hfz40_1⟩ := c2_ BK715; have hnb41 := NB713_714.out; have hnc41 := NB714_713.out; obtain ⟨hcz42_0, hcz42_1, hfz42_0, hfz42_1⟩ := c2_ BK713) | ((with_reducible refine gate_callee (f := 116) rfl ?_); refine gL_ (some 26) Try.func116 #[.agg #[.slice A0_0 l0_0.length c0_0, .slice A0_1 l0_1.length c0_1]] rfl qa_ ?_; (with_reducible refine (impl_TurnSurface.calls k _ _ l0_0 _ _ l0_1 t730 t733 t736 _ (Kd.C_below HR0_0.out hB_) HC0_0.out (Kd.C_below HR0_1.out hB_) HC0_1.out A34.out).mono ?_); rintro e w43 ⟨v731, v734, rfl, ho0, ho1, hb⟩; refine ⟨_, rfl, ?_⟩; have HO732 := rl_ w ho0; have HO735 := rl_ w ho1; replace BK713 := Aside0.mk (blk_below (g := gb713) (o := .cells #[.slice A0_0 l0_0.length c0_0, .slice A0_1 l0_1.length c0_1] 33 (0, 0)) (by (with_reducible repeat (first | refine blk_drewN ?_ _ | refine blk_drew ?_ | refine blk_alloc ?_ _)); refine blk_far ?_ NB713_715.out _; (with_reducible repeat (first | refine blk_drewN ?_ _ | refine blk_drew ?_ | refine blk_alloc ?_ _)); refine blk_far ?_ NB713_715.out _; (with_reducible repeat (first | refine blk_drewN ?_ _ | refine blk_drew ?_ | refine blk_alloc ?_ _)); exact BK713.out) hb); replace BK714 := Aside0.mk (blk_below (g := gb714) (o := .cells #[.slice none 0 0, .slice none 0 0] 33 (0, 0)) (by (with_reducible repeat (first | refine blk_drewN ?_ _ | refine blk_drew ?_ | refine blk_alloc ?_ _)); refine blk_far ?_ NB714_715.out _; (with_reducible repeat (first | refine blk_drewN ?_ _ | refine blk_drew ?_ | refine blk_alloc ?_ _)); refine blk_far ?_ NB714_715.out _; (with_reducible repeat (first | refine blk_drewN ?_ _ | refine blk_drew ?_ | refine blk_alloc ?_ _)); exact BK714.out) hb); replace BK715 := Aside0.mk (blk_below (g := gb715) (o := .cells #[.slice none 0 0, .slice none 0 0] 33 (0, 0)) qp_ hb); replace HB := b1_ hb; clear hb ho0 ho1; obtain ⟨Ao44, co44, eo44⟩ := Kd.R_slice HO732.out; subst eo44; obtain ⟨hcz45_0, hcz45_1, hfz45_0, hfz45_1⟩ := c2_ BK715; obtain ⟨Ao46, co46, eo46⟩ := Kd.R_slice HO735.out; subst eo46; obtain ⟨hcz47_0, hcz47_1, hfz47_0, hfz47_1⟩ := c2_ BK714))
        refine bodyPost_ret (results_cell_row rfl _ _ gb714 33 #[.slice Ao44 t730.length co44, .slice Ao46 t733.length co46] (0, 0) _ rfl (by (with_reducible repeat (first | refine blk_drewN ?_ _ | refine blk_drew ?_ | refine blk_alloc ?_ _)); refine blk_put (cs := #[.slice Ao44 t730.length co44, .slice none 0 0]) ?_ 1 _ rfl; (with_reducible repeat (first | refine blk_drewN ?_ _ | refine blk_drew ?_ | refine blk_alloc ?_ _)); refine blk_put (cs := #[.slice none 0 0, .slice none 0 0]) ?_ 0 _ rfl; (with_reducible repeat (first | refine blk_drewN ?_ _ | refine blk_drew ?_ | refine blk_alloc ?_ _)); refine blk_far ?_ NB714_715.out _; (with_reducible repeat (first | refine blk_drewN ?_ _ | refine blk_drew ?_ | refine blk_alloc ?_ _)); refine blk_far ?_ NB714_715.out _; (with_reducible repeat (first | refine blk_drewN ?_ _ | refine blk_drew ?_ | refine blk_alloc ?_ _)); exact BK714.out) Try.underlying33 rfl (by kernel_rfl)) rfl ?_
        exact ⟨_, _, qb_, (rw_ (Kd.R_mono (Kd.R_far (p := ⟨gb714, 1, none⟩) (Kd.R_far (p := ⟨gb714, 0, none⟩) (Kd.R_far (p := ⟨gb715, 1, none⟩) (Kd.R_far (p := ⟨gb715, 0, none⟩) (Kd.R_types (Kd.R_types HO732.out BK715.out (by decide)) BK714.out (by decide)) (fun _ hk => hk.1.2) (.slice Ao44 t730.length co44)) (fun _ hk => hk.1.2) (.slice Ao46 t733.length co46)) (fun _ hk => hk.2) (.slice Ao44 t730.length co44)) (fun _ hk => hk.2) (.slice Ao46 t733.length co46)) (fun _ hk => hk.1.1))), (rw_ (Kd.R_mono (Kd.R_far (p := ⟨gb714, 1, none⟩) (Kd.R_far (p := ⟨gb714, 0, none⟩) (Kd.R_far (p := ⟨gb715, 1, none⟩) (Kd.R_far (p := ⟨gb715, 0, none⟩) (Kd.R_types (Kd.R_types HO735.out BK715.out (by decide)) BK714.out (by decide)) (fun _ hk => hk.1.2) (.slice Ao44 t730.length co44)) (fun _ hk => hk.1.2) (.slice Ao46 t733.length co46)) (fun _ hk => hk.2) (.slice Ao44 t730.length co44)) (fun _ hk => hk.2) (.slice Ao46 t733.length co46)) (fun _ hk => hk.1.1))), hB_⟩
      · rw [if_neg c33] at H
        have c33b0 : (a1 == 83) = false := beq_eq_false_iff_ne.mpr c33
        have c33b1 : (a1 != 83) = true := bne_iff_ne.mpr c33
        by_cases c48 : a1 = 115
        · rw [if_pos c48] at H
          have c48b0 : (a1 == 115) = true := beq_iff_eq.mpr c48
          have c48b1 : (a1 != 115) = false := bne_eq_false_iff_eq.mpr c48
          clear c48
          obtain ⟨⟨t737, t740, t743⟩, A49, H⟩ := bi_ H
          try dsimp only at H
          simp only [Option.some.injEq, Prod.mk.injEq] at H
          obtain ⟨rfl, rfl⟩ := H
          go_enter Try.func70, Try.ntmps70
          go_wp2_with (first | ((with_reducible refine gate_dst (N := 2) rfl ?_); refine bx_ 2 #[.slice A0_0 l0_0.length c0_0, .slice A0_1 l0_1.length c0_1] 33 ?_; intro gb713 hg w50 hbox hb; have BK713 := Aside0.mk hbox; have GW713 := gw_ w hg; have GE713 := GW713; replace HB := b1_ hb; clear hb hbox hg) | ((with_reducible refine gate_dst (N := 4) rfl ?_); refine bx_ 4 #[.slice none 0 0, .slice none 0 0] 33 ?_; intro gb714 hg w51 hbox hb; have BK714 := Aside0.mk hbox; have GW714 := gw_ w hg; have GE714 := GW714; replace HB := b1_ hb; have NB713_714 := gN_ BK713 hg; have NB714_713 := gP_ BK713 hg; replace BK713 := bb_ BK713 hb; clear hb hbox hg) | ((with_reducible refine gate_dst (N := 5) rfl ?_); refine bx_ 5 #[.slice none 0 0, .slice none 0 0] 33 ?_; intro gb715 hg w52 hbox hb; have BK715 := Aside0.mk hbox; have GW715 := gw_ w hg; have GE715 := GW715; replace HB := b1_ hb; have NB713_715 := gN_ BK713 hg; have NB715_713 := gP_ BK713 hg; replace BK713 := bb_ BK713 hb; have NB714_715 := gN_ BK714 hg; have NB715_714 := gP_ BK714 hg; replace BK714 := bb_ BK714 hb; clear hb hbox hg; have hnb53 := NB715_713.out; have hnc53 := NB713_715.out; have hnb54 := NB715_714.out; have hnc54 := NB714_715.out; obtain ⟨hcz55_0, hcz55_1, hfz55_0, hfz55_1⟩ := c2_ BK715; have hnb56 := NB713_714.out; have hnc56 := NB714_713.out; obtain ⟨hcz57_0, hcz57_1, hfz57_0, hfz57_1⟩ := c2_ BK713) | ((with_reducible refine gate_callee (f := 117) rfl ?_); refine gL_ (some 33) Try.func117 #[.agg #[.slice A0_0 l0_0.length c0_0, .slice A0_1 l0_1.length c0_1]] rfl qa_ ?_; (with_reducible refine (impl_UnturnSurface.calls k _ _ l0_0 _ _ l0_1 t737 t740 t743 _ (Kd.C_below HR0_0.out hB_) HC0_0.out (Kd.C_below HR0_1.out hB_) HC0_1.out A49.out).mono ?_); rintro e w58 ⟨v738, v741, rfl, ho0, ho1, hb⟩; refine ⟨_, rfl, ?_⟩; have HO739 := rl_ w ho0; have HO742 := rl_ w ho1; replace BK713 := Aside0.mk (blk_below (g := gb713) (o := .cells #[.slice A0_0 l0_0.length c0_0, .slice A0_1 l0_1.length c0_1] 33 (0, 0)) (by (with_reducible repeat (first | refine blk_drewN ?_ _ | refine blk_drew ?_ | refine blk_alloc ?_ _)); refine blk_far ?_ NB713_715.out _; (with_reducible repeat (first | refine blk_drewN ?_ _ | refine blk_drew ?_ | refine blk_alloc ?_ _)); refine blk_far ?_ NB713_715.out _; (with_reducible repeat (first | refine blk_drewN ?_ _ | refine blk_drew ?_ | refine blk_alloc ?_ _)); exact BK713.out) hb); replace BK714 := Aside0.mk (blk_below (g := gb714) (o := .cells #[.slice none 0 0, .slice none 0 0] 33 (0, 0)) (by (with_reducible repeat (first | refine blk_drewN ?_ _ | refine blk_drew ?_ | refine blk_alloc ?_ _)); refine blk_far ?_ NB714_715.out _; (with_reducible repeat (first | refine blk_drewN ?_ _ | refine blk_drew ?_ | refine blk_alloc ?_ _)); refine blk_far ?_ NB714_715.out _; (with_reducible repeat (first | refine blk_drewN ?_ _ | refine blk_drew ?_ | refine blk_alloc ?_ _)); exact BK714.out) hb); replace BK715 := Aside0.mk (blk_below (g := gb715) (o := .cells #[.slice none 0 0, .slice none 0 0] 33 (0, 0)) qp_ hb); replace HB := b1_ hb; clear hb ho0 ho1; obtain ⟨Ao59, co59, eo59⟩ := Kd.R_slice HO739.out; subst eo59; obtain ⟨hcz60_0, hcz60_1, hfz60_0, hfz60_1⟩ := c2_ BK715; obtain ⟨Ao61, co61, eo61⟩ := Kd.R_slice HO742.out; subst eo61; obtain ⟨hcz62_0, hcz62_1, hfz62_0, hfz62_1⟩ := c2_ BK714))
          refine bodyPost_ret (results_cell_row rfl _ _ gb714 33 #[.slice Ao59 t737.length co59, .slice Ao61 t740.length co61] (0, 0) _ rfl (by (with_reducible repeat (first | refine blk_drewN ?_ _ | refine blk_drew ?_ | refine blk_alloc ?_ _)); refine blk_put (cs := #[.slice Ao59 t737.length co59, .slice none 0 0]) ?_ 1 _ rfl; (with_reducible repeat (first | refine blk_drewN ?_ _ | refine blk_drew ?_ | refine blk_alloc ?_ _)); refine blk_put (cs := #[.slice none 0 0, .slice none 0 0]) ?_ 0 _ rfl; (with_reducible repeat (first | refine blk_drewN ?_ _ | refine blk_drew ?_ | refine blk_alloc ?_ _)); refine blk_far ?_ NB714_715.out _; (with_reducible repeat (first | refine blk_drewN ?_ _ | refine blk_drew ?_ | refine blk_alloc ?_ _)); refine blk_far ?_ NB714_715.out _; (with_reducible repeat (first | refine blk_drewN ?_ _ | refine blk_drew ?_ | refine blk_alloc ?_ _)); exact BK714.out) Try.underlying33 rfl (by kernel_rfl)) rfl ?_
          exact ⟨_, _, qb_, (rw_ (Kd.R_mono (Kd.R_far (p := ⟨gb714, 1, none⟩) (Kd.R_far (p := ⟨gb714, 0, none⟩) (Kd.R_far (p := ⟨gb715, 1, none⟩) (Kd.R_far (p := ⟨gb715, 0, none⟩) (Kd.R_types (Kd.R_types HO739.out BK715.out (by decide)) BK714.out (by decide)) (fun _ hk => hk.1.2) (.slice Ao59 t737.length co59)) (fun _ hk => hk.1.2) (.slice Ao61 t740.length co61)) (fun _ hk => hk.2) (.slice Ao59 t737.length co59)) (fun _ hk => hk.2) (.slice Ao61 t740.length co61)) (fun _ hk => hk.1.1))), (rw_ (Kd.R_mono (Kd.R_far (p := ⟨gb714, 1, none⟩) (Kd.R_far (p := ⟨gb714, 0, none⟩) (Kd.R_far (p := ⟨gb715, 1, none⟩) (Kd.R_far (p := ⟨gb715, 0, none⟩) (Kd.R_types (Kd.R_types HO742.out BK715.out (by decide)) BK714.out (by decide)) (fun _ hk => hk.1.2) (.slice Ao59 t737.length co59)) (fun _ hk => hk.1.2) (.slice Ao61 t740.length co61)) (fun _ hk => hk.2) (.slice Ao59 t737.length co59)) (fun _ hk => hk.2) (.slice Ao61 t740.length co61)) (fun _ hk => hk.1.1))), hB_⟩
        · rw [if_neg c48] at H
          have c48b0 : (a1 == 115) = false := beq_eq_false_iff_ne.mpr c48
          have c48b1 : (a1 != 115) = true := bne_iff_ne.mpr c48
          simp only [Option.some.injEq, Prod.mk.injEq] at H
          obtain ⟨rfl, rfl⟩ := H
          go_enter Try.func70, Try.ntmps70
          go_wp2_with (first | ((with_reducible refine gate_dst (N := 2) rfl ?_); refine bx_ 2 #[.slice A0_0 l0_0.length c0_0, .slice A0_1 l0_1.length c0_1] 33 ?_; intro gb713 hg w63 hbox hb; have BK713 := Aside0.mk hbox; have GW713 := gw_ w hg; have GE713 := GW713; replace HB := b1_ hb; clear hb hbox hg) | ((with_reducible refine gate_dst (N := 4) rfl ?_); refine bx_ 4 #[.slice none 0 0, .slice none 0 0] 33 ?_; intro gb714 hg w64 hbox hb; have BK714 := Aside0.mk hbox; have GW714 := gw_ w hg; have GE714 := GW714; replace HB := b1_ hb; have NB713_714 := gN_ BK713 hg; have NB714_713 := gP_ BK713 hg; replace BK713 := bb_ BK713 hb; clear hb hbox hg) | ((with_reducible refine gate_dst (N := 5) rfl ?_); refine bx_ 5 #[.slice none 0 0, .slice none 0 0] 33 ?_; intro gb715 hg w65 hbox hb; have BK715 := Aside0.mk hbox; have GW715 := gw_ w hg; have GE715 := GW715; replace HB := b1_ hb; have NB713_715 := gN_ BK713 hg; have NB715_713 := gP_ BK713 hg; replace BK713 := bb_ BK713 hb; have NB714_715 := gN_ BK714 hg; have NB715_714 := gP_ BK714 hg; replace BK714 := bb_ BK714 hb; clear hb hbox hg; have hnb66 := NB715_713.out; have hnc66 := NB713_715.out; have hnb67 := NB715_714.out; have hnc67 := NB714_715.out; obtain ⟨hcz68_0, hcz68_1, hfz68_0, hfz68_1⟩ := c2_ BK715; have hnb69 := NB714_713.out; have hnc69 := NB713_714.out; obtain ⟨hcz70_0, hcz70_1, hfz70_0, hfz70_1⟩ := c2_ BK714))
          refine bodyPost_ret (results_cell_row rfl _ _ gb714 33 #[.slice none 0 0, .slice none 0 0] (0, 0) _ rfl (by (with_reducible repeat (first | refine blk_drewN ?_ _ | refine blk_drew ?_ | refine blk_alloc ?_ _)); refine blk_put (cs := #[.slice none 0 0, .slice none 0 0]) ?_ 1 _ rfl; (with_reducible repeat (first | refine blk_drewN ?_ _ | refine blk_drew ?_ | refine blk_alloc ?_ _)); refine blk_put (cs := #[.slice none 0 0, .slice none 0 0]) ?_ 0 _ rfl; (with_reducible repeat (first | refine blk_drewN ?_ _ | refine blk_drew ?_ | refine blk_alloc ?_ _)); refine blk_far ?_ NB714_715.out _; (with_reducible repeat (first | refine blk_drewN ?_ _ | refine blk_drew ?_ | refine blk_alloc ?_ _)); refine blk_far ?_ NB714_715.out _; (with_reducible repeat (first | refine blk_drewN ?_ _ | refine blk_drew ?_ | refine blk_alloc ?_ _)); exact BK714.out) Try.underlying33 rfl (by kernel_rfl)) rfl ?_
          exact ⟨_, _, qb_, by first | exact Kd.R_nil _ _ _ _ _ | exact Kd.N_nil _ _ _ _ _ | exact Kd.V_nil _ _ _ _ _ | exact Kd.Q_nil _ _ _ _ _ | exact Kd.S_nil _ _ _ _ _, by first | exact Kd.R_nil _ _ _ _ _ | exact Kd.N_nil _ _ _ _ _ | exact Kd.V_nil _ _ _ _ _ | exact Kd.Q_nil _ _ _ _ _ | exact Kd.S_nil _ _ _ _ _, hB_⟩
end Go.Proofs.Ytoijcallajegfaa.A
end
section
/- The orbit: what finding it comes to, and how it lies in memory. No conditions. -/
namespace Go.Proofs.Ytoijcallajegfaa.M
set_option linter.unusedVariables false
set_option linter.unusedSimpArgs false
open Go Go.RowKit Go.Proofs.YtoijcallajegfaaW.PrintWords Go.Proofs.YtoijcallajegfaaW.PrintLast Go.Proofs.YtoijcallajegfaaW.PrintMore Go.Proofs.Ytoijcallajegfaa.A
structure Orb where
  L : List S33
  W : List ByteArray
  F : List Int
  B : List Int
  T : List Int
  S : List Int
def stpO (k : Nat) (i c : Int) (s : Orb) : Option (Option Orb) :=
  if 0 ≤ i then (if i < (s.L.length : Int) then ((impl_letterSurface.f k (rd_T33 s.L i).f0 (rd_T33 s.L i).f1 c).bind fun x => ((impl_CanonOf.f k x.1 x.2).bind fun y => ((indexO k s.L y.1 y.2.1).bind fun j =>
    (if j < 0 then (if (s.L.length : Int) = 120 then some none else (if s.L.length < 1000000 ∧ s.W.length < 1000000 ∧ s.F.length < 1000000 ∧ s.B.length < 1000000 ∧ s.T.length < 1000000 ∧ s.S.length < 1000000 then (if i < (s.W.length : Int) then (if (rdOf ByteArray.empty s.W i).size + 1 ≤ 9223372036854775807 then
      some (some ⟨s.L ++ [⟨y.1, y.2.1⟩], s.W ++ [rdOf ByteArray.empty s.W i ++ strOfNums [c]], s.F ++ [i], s.B ++ [c], if c = 84 then s.T ++ [(s.L.length : Int)] else s.T, if c = 84 then s.S else s.S ++ [(s.L.length : Int)]⟩) else none) else none) else none))
    else (if s.T.length < 1000000 ∧ s.S.length < 1000000 then some (some ⟨s.L, s.W, s.F, s.B, if c = 84 then s.T ++ [j] else s.T, if c = 84 then s.S else s.S ++ [j]⟩) else none))))) else none) else none
def innerO (k : Nat) (i : Int) : List Int → Orb → Option (Option Orb)
  | [], s => some (some s)
  | c :: cs, s => (stpO k i c s).bind fun z => match z with | none => some none | some s' => innerO k i cs s'
def loopO : Nat → Orb → Int → Option (Option Orb)
  | 0, _, _ => none
  | k + 1, s, i => if i < (s.L.length : Int) then ((innerO k i [84, 83] s).bind fun z => match z with | none => some none | some s' => loopO k s' (wrap64 (i + 1))) else some (some s)
def orbitO (k : Nat) (r u : List Int) : Option (Option Orb) := (impl_CanonOf.f k r u).bind fun y => if y.2.2 = true then loopO k ⟨[⟨y.1, y.2.1⟩], [⟨#[]⟩], [-1], [0], [], []⟩ 0 else some none
structure OrbH (base : Nat) (col : Nat → Nat) (W : World) (gO gM n : Nat) (vL vW vF vB vT vS : Value) (s : Orb) : Prop where
  hO : W.heap[gO]? = some (.cells #[vL, vW, vF, vB, .map (some gM)] 97 (0, 0))
  hM : W.heap[gM]? = some (mapO n vT vS)
  cO : col gO = 6
  cM : col gM = 7
  bO : base ≤ gO
  bM : base ≤ gM
  nT : n = 0 → vT = .slice none 0 0
  nS : n ≤ 1 → vS = .slice none 0 0
  hL : Kd.S k33 33 W base (fun k => col k = 0) vL s.L
  hW : Kd.R Kd.string 9 W base (fun k => col k = 1) vW s.W
  hF : Kd.R (Kd.int .i64) 3 W base (fun k => col k = 2) vF s.F
  hB : Kd.R (Kd.int .u8) 5 W base (fun k => col k = 3) vB s.B
  hT : Kd.R (Kd.int .i64) 3 W base (fun k => col k = 4) vT s.T
  hS : Kd.R (Kd.int .i64) 3 W base (fun k => col k = 5) vS s.S
def rcl (n : Nat) (col : Nat → Nat) (c : Nat) : Nat → Nat := fun k => if k < n then col k else c
theorem rcl_new {n : Nat} {col : Nat → Nat} {c k : Nat} (h : n ≤ k) : rcl n col c k = c := if_neg (by omega)
theorem rcl_old {n : Nat} {col : Nat → Nat} {c k : Nat} (h : k < n) : rcl n col c k = col k := if_pos h
section
variable {α : Type} {d : Kd α} {e base c c2 : Nat} {col col' : Nat → Nat} {W w1 : World} {v : Value} {xs : List α} {row : Option Nat}
theorem R_col (h : d.R e W base (fun k => col k = c) v xs) (hc : ∀ k, k < W.heap.size → col' k = col k) : d.R e W base (fun k => col' k = c) v xs := Kd.R_mono (Kd.R_bound h) (fun k hk => (hc k hk.2.2.1).trans hk.1)
theorem S_col (h : Kd.S d e W base (fun k => col k = c) v xs) (hc : ∀ k, k < W.heap.size → col' k = col k) : Kd.S d e W base (fun k => col' k = c) v xs := Kd.S_mono (Kd.S_bound h) (fun k hk => (hc k hk.2.2.1).trans hk.1)
theorem R_gr (h : d.R e W base (fun k => col k = c2) v xs) (hg : W.grownBy w1 row) (hr : ∀ k, row = some k → col k = c) (hne : c ≠ c2) : d.R e w1 base (fun k => rcl W.heap.size col c k = c2) v xs :=
  Kd.R_grown (R_col h (fun k hk => rcl_old hk)) hg (fun k hk he => by
    have h1 := hr k he.symm
    unfold rcl at hk
    split at hk
    · exact hne (h1.symm.trans hk)
    · exact hne hk)
theorem S_gr (h : Kd.S d e W base (fun k => col k = c2) v xs) (hg : W.grownBy w1 row) (hr : ∀ k, row = some k → col k = c) (hne : c ≠ c2) : Kd.S d e w1 base (fun k => rcl W.heap.size col c k = c2) v xs :=
  Kd.S_grown (S_col h (fun k hk => rcl_old hk)) hg (fun k hk he => by
    have h1 := hr k he.symm
    unfold rcl at hk
    split at hk
    · exact hne (h1.symm.trans hk)
    · exact hne hk)
theorem B_gr {g : Nat} {o : Obj} (h : W.heap[g]? = some o) (hcg : col g = c2) (hg : W.grownBy w1 row) (hr : ∀ k, row = some k → col k = c) (hne : c ≠ c2) : w1.heap[g]? = some o ∧ rcl W.heap.size col c g = c2 :=
  ⟨(hg.block g (Array.getElem?_eq_some_iff.1 h).1 (fun he => hne ((hr g he.symm).symm.trans hcg))).trans h, (rcl_old (Array.getElem?_eq_some_iff.1 h).1).trans hcg⟩
end
theorem put_at {w : World} {g t : Nat} {cs : Array Value} (hb : w.heap[g]? = some (.cells cs t (0, 0))) (j : Nat) (v : Value) : (w.setCell ⟨g, j, none⟩ v).heap[g]? = some (.cells (cs.setIfInBounds j v) t (0, 0)) := blk_set hb j v
theorem put_far {w : World} {g g' : Nat} {o : Obj} (hb : w.heap[g']? = some o) (h : g' ≠ g) (j : Nat) (v : Value) : (w.setCell ⟨g, j, none⟩ v).heap[g']? = some o := (Below.heap_setCell w ⟨g, j, none⟩ v g' h).trans hb
section
variable {base : Nat} {col col' : Nat → Nat} {W w1 : World} {gO gM n : Nat} {vL vW vF vB vT vS : Value} {s : Orb}
theorem OrbH.below (h : OrbH base col W gO gM n vL vW vF vB vT vS s) (hb : Below W.heap.size W w1) : OrbH base col w1 gO gM n vL vW vF vB vT vS s :=
  ⟨blk_below h.hO hb, blk_below h.hM hb, h.cO, h.cM, h.bO, h.bM, h.nT, h.nS, Kd.S_below h.hL hb, Kd.R_below h.hW hb, Kd.R_below h.hF hb, Kd.R_below h.hB hb, Kd.R_below h.hT hb, Kd.R_below h.hS hb⟩
theorem OrbH.recol (h : OrbH base col W gO gM n vL vW vF vB vT vS s) (hc : ∀ k, k < W.heap.size → col' k = col k) : OrbH base col' W gO gM n vL vW vF vB vT vS s :=
  ⟨h.hO, h.hM, (hc _ (Array.getElem?_eq_some_iff.1 h.hO).1).trans h.cO, (hc _ (Array.getElem?_eq_some_iff.1 h.hM).1).trans h.cM, h.bO, h.bM, h.nT, h.nS, S_col h.hL hc, R_col h.hW hc, R_col h.hF hc, R_col h.hB hc, R_col h.hT hc, R_col h.hS hc⟩
theorem OrbH.ne (h : OrbH base col W gO gM n vL vW vF vB vT vS s) : gO ≠ gM := fun e => by have h1 := h.cO; have h2 := h.cM; rw [e] at h1; omega
theorem OrbH.look (h : OrbH base col W gO gM n vL vW vF vB vT vS s) : mapV n 84 vT vS = vT ∧ mapV n 83 vT vS = vS := by
  unfold mapV
  constructor
  · rw [if_pos rfl]
    split
    · rfl
    · exact (h.nT (by omega)).symm
  · rw [if_neg (by decide)]
    split
    · rfl
    · exact (h.nS (by omega)).symm
theorem OrbH.putL {v1 : Value} {L1 : List S33} (h : OrbH base col W gO gM n vL vW vF vB vT vS s) (hg : W.grownBy w1 vL.ownBlock) (h1 : Kd.S k33 33 w1 base (fun k => rcl W.heap.size col 0 k = 0) v1 L1) :
    OrbH base (rcl W.heap.size col 0) (w1.setCell ⟨gO, 0, none⟩ v1) gO gM n v1 vW vF vB vT vS { s with L := L1 } := by
  have hr : ∀ k, vL.ownBlock = some k → col k = 0 := (Kd.S_R h.hL).1
  have bO := B_gr h.hO h.cO hg hr (by decide)
  have bM := B_gr h.hM h.cM hg hr (by decide)
  have far : ∀ c, c ≠ 6 → ∀ k, rcl W.heap.size col 0 k = c → k ≠ (⟨gO, 0, none⟩ : Addr).block := fun c hc k hk e => by
    have : k = gO := e
    rw [this, bO.2] at hk
    exact hc hk.symm
  exact ⟨put_at bO.1 0 v1, put_far bM.1 h.ne.symm 0 v1, bO.2, bM.2, h.bO, h.bM, h.nT, h.nS, Kd.S_far h1 (far 0 (by decide)) v1, Kd.R_far (R_gr h.hW hg hr (by decide)) (far 1 (by decide)) v1, Kd.R_far (R_gr h.hF hg hr (by decide)) (far 2 (by decide)) v1, Kd.R_far (R_gr h.hB hg hr (by decide)) (far 3 (by decide)) v1, Kd.R_far (R_gr h.hT hg hr (by decide)) (far 4 (by decide)) v1, Kd.R_far (R_gr h.hS hg hr (by decide)) (far 5 (by decide)) v1⟩
theorem OrbH.putW {v1 : Value} {L1 : List ByteArray} (h : OrbH base col W gO gM n vL vW vF vB vT vS s) (hg : W.grownBy w1 vW.ownBlock) (h1 : Kd.R Kd.string 9 w1 base (fun k => rcl W.heap.size col 1 k = 1) v1 L1) :
    OrbH base (rcl W.heap.size col 1) (w1.setCell ⟨gO, 1, none⟩ v1) gO gM n vL v1 vF vB vT vS { s with W := L1 } := by
  have hr : ∀ k, vW.ownBlock = some k → col k = 1 := h.hW.1
  have bO := B_gr h.hO h.cO hg hr (by decide)
  have bM := B_gr h.hM h.cM hg hr (by decide)
  have far : ∀ c, c ≠ 6 → ∀ k, rcl W.heap.size col 1 k = c → k ≠ (⟨gO, 1, none⟩ : Addr).block := fun c hc k hk e => by
    have : k = gO := e
    rw [this, bO.2] at hk
    exact hc hk.symm
  exact ⟨put_at bO.1 1 v1, put_far bM.1 h.ne.symm 1 v1, bO.2, bM.2, h.bO, h.bM, h.nT, h.nS, Kd.S_far (S_gr h.hL hg hr (by decide)) (far 0 (by decide)) v1, Kd.R_far h1 (far 1 (by decide)) v1, Kd.R_far (R_gr h.hF hg hr (by decide)) (far 2 (by decide)) v1, Kd.R_far (R_gr h.hB hg hr (by decide)) (far 3 (by decide)) v1, Kd.R_far (R_gr h.hT hg hr (by decide)) (far 4 (by decide)) v1, Kd.R_far (R_gr h.hS hg hr (by decide)) (far 5 (by decide)) v1⟩
theorem OrbH.putF {v1 : Value} {L1 : List Int} (h : OrbH base col W gO gM n vL vW vF vB vT vS s) (hg : W.grownBy w1 vF.ownBlock) (h1 : Kd.R (Kd.int .i64) 3 w1 base (fun k => rcl W.heap.size col 2 k = 2) v1 L1) :
    OrbH base (rcl W.heap.size col 2) (w1.setCell ⟨gO, 2, none⟩ v1) gO gM n vL vW v1 vB vT vS { s with F := L1 } := by
  have hr : ∀ k, vF.ownBlock = some k → col k = 2 := h.hF.1
  have bO := B_gr h.hO h.cO hg hr (by decide)
  have bM := B_gr h.hM h.cM hg hr (by decide)
  have far : ∀ c, c ≠ 6 → ∀ k, rcl W.heap.size col 2 k = c → k ≠ (⟨gO, 2, none⟩ : Addr).block := fun c hc k hk e => by
    have : k = gO := e
    rw [this, bO.2] at hk
    exact hc hk.symm
  exact ⟨put_at bO.1 2 v1, put_far bM.1 h.ne.symm 2 v1, bO.2, bM.2, h.bO, h.bM, h.nT, h.nS, Kd.S_far (S_gr h.hL hg hr (by decide)) (far 0 (by decide)) v1, Kd.R_far (R_gr h.hW hg hr (by decide)) (far 1 (by decide)) v1, Kd.R_far h1 (far 2 (by decide)) v1, Kd.R_far (R_gr h.hB hg hr (by decide)) (far 3 (by decide)) v1, Kd.R_far (R_gr h.hT hg hr (by decide)) (far 4 (by decide)) v1, Kd.R_far (R_gr h.hS hg hr (by decide)) (far 5 (by decide)) v1⟩
theorem OrbH.putB {v1 : Value} {L1 : List Int} (h : OrbH base col W gO gM n vL vW vF vB vT vS s) (hg : W.grownBy w1 vB.ownBlock) (h1 : Kd.R (Kd.int .u8) 5 w1 base (fun k => rcl W.heap.size col 3 k = 3) v1 L1) :
    OrbH base (rcl W.heap.size col 3) (w1.setCell ⟨gO, 3, none⟩ v1) gO gM n vL vW vF v1 vT vS { s with B := L1 } := by
  have hr : ∀ k, vB.ownBlock = some k → col k = 3 := h.hB.1
  have bO := B_gr h.hO h.cO hg hr (by decide)
  have bM := B_gr h.hM h.cM hg hr (by decide)
  have far : ∀ c, c ≠ 6 → ∀ k, rcl W.heap.size col 3 k = c → k ≠ (⟨gO, 3, none⟩ : Addr).block := fun c hc k hk e => by
    have : k = gO := e
    rw [this, bO.2] at hk
    exact hc hk.symm
  exact ⟨put_at bO.1 3 v1, put_far bM.1 h.ne.symm 3 v1, bO.2, bM.2, h.bO, h.bM, h.nT, h.nS, Kd.S_far (S_gr h.hL hg hr (by decide)) (far 0 (by decide)) v1, Kd.R_far (R_gr h.hW hg hr (by decide)) (far 1 (by decide)) v1, Kd.R_far (R_gr h.hF hg hr (by decide)) (far 2 (by decide)) v1, Kd.R_far h1 (far 3 (by decide)) v1, Kd.R_far (R_gr h.hT hg hr (by decide)) (far 4 (by decide)) v1, Kd.R_far (R_gr h.hS hg hr (by decide)) (far 5 (by decide)) v1⟩
theorem OrbH.putT {v1 : Value} {L1 : List Int} (h : OrbH base col W gO gM n vL vW vF vB vT vS s) (hg : W.grownBy w1 vT.ownBlock) (h1 : Kd.R (Kd.int .i64) 3 w1 base (fun k => rcl W.heap.size col 4 k = 4) v1 L1) :
    w1.heap[gM]? = some (mapO n vT vS) ∧ OrbH base (rcl W.heap.size col 4) (setMap w1 gM (max n 1) v1 vS) gO gM (max n 1) vL vW vF vB v1 vS { s with T := L1 } := by
  have hr : ∀ k, vT.ownBlock = some k → col k = 4 := h.hT.1
  have bO := B_gr h.hO h.cO hg hr (by decide)
  have bM := B_gr h.hM h.cM hg hr (by decide)
  have hgm : w1.grownBy (setMap w1 gM (max n 1) v1 vS) (some gM) := setMap_grown v1 vS
  have far : ∀ c, c ≠ 7 → ∀ k, rcl W.heap.size col 4 k = c → some k ≠ some gM := fun c hc k hk e => by
    injection e with e
    rw [e, bM.2] at hk
    exact hc hk.symm
  exact ⟨bM.1, (setMap_far v1 vS h.ne).trans bO.1, setMap_at bM.1 v1 vS, bO.2, bM.2, h.bO, h.bM, fun e => by omega, fun e => h.nS (by omega), Kd.S_grown (S_gr h.hL hg hr (by decide)) hgm (far 0 (by decide)), Kd.R_grown (R_gr h.hW hg hr (by decide)) hgm (far 1 (by decide)), Kd.R_grown (R_gr h.hF hg hr (by decide)) hgm (far 2 (by decide)), Kd.R_grown (R_gr h.hB hg hr (by decide)) hgm (far 3 (by decide)), Kd.R_grown h1 hgm (far 4 (by decide)), Kd.R_grown (R_gr h.hS hg hr (by decide)) hgm (far 5 (by decide))⟩
theorem OrbH.putS {v1 : Value} {L1 : List Int} (h : OrbH base col W gO gM n vL vW vF vB vT vS s) (hn : n = 1 ∨ n = 2) (hg : W.grownBy w1 vS.ownBlock) (h1 : Kd.R (Kd.int .i64) 3 w1 base (fun k => rcl W.heap.size col 5 k = 5) v1 L1) :
    w1.heap[gM]? = some (mapO n vT vS) ∧ OrbH base (rcl W.heap.size col 5) (setMap w1 gM 2 vT v1) gO gM 2 vL vW vF vB vT v1 { s with S := L1 } := by
  have hr : ∀ k, vS.ownBlock = some k → col k = 5 := h.hS.1
  have bO := B_gr h.hO h.cO hg hr (by decide)
  have bM := B_gr h.hM h.cM hg hr (by decide)
  have hgm : w1.grownBy (setMap w1 gM 2 vT v1) (some gM) := setMap_grown vT v1
  have far : ∀ c, c ≠ 7 → ∀ k, rcl W.heap.size col 5 k = c → some k ≠ some gM := fun c hc k hk e => by
    injection e with e
    rw [e, bM.2] at hk
    exact hc hk.symm
  exact ⟨bM.1, (setMap_far vT v1 h.ne).trans bO.1, setMap_at bM.1 vT v1, bO.2, bM.2, h.bO, h.bM, fun e => by omega, fun e => by omega, Kd.S_grown (S_gr h.hL hg hr (by decide)) hgm (far 0 (by decide)), Kd.R_grown (R_gr h.hW hg hr (by decide)) hgm (far 1 (by decide)), Kd.R_grown (R_gr h.hF hg hr (by decide)) hgm (far 2 (by decide)), Kd.R_grown (R_gr h.hB hg hr (by decide)) hgm (far 3 (by decide)), Kd.R_grown (R_gr h.hT hg hr (by decide)) hgm (far 4 (by decide)), Kd.R_grown h1 hgm (far 5 (by decide))⟩
end
end Go.Proofs.Ytoijcallajegfaa.M
end
section
/- What a call made lies apart from what was there. No conditions. -/
namespace Go.Proofs.Ytoijcallajegfaa.M
open Go.RowKit Go.Proofs.YtoijcallajegfaaW.PrintWords Go.Proofs.YtoijcallajegfaaW.PrintLast Go.Proofs.YtoijcallajegfaaW.PrintMore
theorem box_store {w0 W : World} {g t : Nat} {cs : Array Value} (hb : W.heap[g]? = some (.cells cs t (0, 0))) (x y : Value) (hB : Below w0.heap.size w0 W) (hg : w0.heap.size ≤ g) :
    ((W.setCell ⟨g, 0, none⟩ x).setCell ⟨g, 1, none⟩ y).heap[g]? = some (.cells ((cs.setIfInBounds 0 x).setIfInBounds 1 y) t (0, 0)) ∧ Kept W ((W.setCell ⟨g, 0, none⟩ x).setCell ⟨g, 1, none⟩ y) (fun k => k = g) ∧ Below w0.heap.size w0 ((W.setCell ⟨g, 0, none⟩ x).setCell ⟨g, 1, none⟩ y) :=
  ⟨blk_set (blk_set hb 0 x) 1 y, Kept.setCell (p := ⟨g, 1, none⟩) (Kept.setCell (p := ⟨g, 0, none⟩) (Kept.refl W (fun k => k = g)) (.inl rfl) x) (.inl rfl) y, below_set (below_set hB hg) hg⟩
end Go.Proofs.Ytoijcallajegfaa.M
end
