/- Lemmas for the row FnListed: the program's functions told as plain functions, and plain mathematics. No conditions. -/
import Derived.Test.YtoijcallajegfaaQFnListed2
section
namespace Go.Proofs.Ytoijcallajegfaa.A
open Go.RowKit Go.Proofs.YtoijcallajegfaaW.PrintWords Go.Proofs.YtoijcallajegfaaW.PrintLast Go.Proofs.YtoijcallajegfaaW.PrintMore
attribute [local go_sem] max2_int min2_int max_two min_two max_three min_three max_four min_four
set_option linter.unusedVariables false
set_option linter.unusedSimpArgs false
mutual
def impl_SurfacesWith.j0 : Nat → Int → Bool → Option ((List (S33)))
  | 0, _, _ => none
  | k + 1, x0, x15 => if x15 = true then (some ([] : List (S33))) else ((impl_allPerms.f k x0).bind fun t268 => (impl_SurfacesWith.l0 k x0 (([] : List (S33))) t268 (t268.length : Int) 0))
def impl_SurfacesWith.l0 : Nat → Int → List (S33) → List (List Int) → Int → Int → Option ((List (S33)))
  | 0, _, _, _, _, _ => none
  | k + 1, x0, x3, x18, x19, x20 => if x20 < x19 then (if 0 ≤ x20 then (if x20 < (x18.length : Int) then ((impl_allPerms.f k x0).bind fun t275 => (impl_SurfacesWith.l1 k x0 x3 (rd_L5 x18 x20) x18 x19 x20 t275 (t275.length : Int) 0)) else (none)) else (none)) else ((impl_sortSurfaces.f x3).bind fun t271 => (some t271))
def impl_SurfacesWith.l1 : Nat → Int → List (S33) → List Int → List (List Int) → Int → Int → List (List Int) → Int → Int → Option ((List (S33)))
  | 0, _, _, _, _, _, _, _, _, _ => none
  | k + 1, x0, x3, x5, x18, x19, x20, x25, x26, x27 => if x27 < x26 then (if 0 ≤ x27 then (if x27 < (x25.length : Int) then ((impl_CanonOf.f k x5 (rd_L5 x25 x27)).bind fun bt279 => (if bt279.2.2 = true then (if x3.length < 2932031007402 then (impl_SurfacesWith.l1 k x0 (x3 ++ [(⟨bt279.1, bt279.2.1⟩ : S33)]) x5 x18 x19 x20 x25 x26 (wrap64 (x27 + 1))) else (none)) else (impl_SurfacesWith.l1 k x0 x3 x5 x18 x19 x20 x25 x26 (wrap64 (x27 + 1))))) else (none)) else (none)) else (impl_SurfacesWith.l0 k x0 x3 x18 x19 (wrap64 (x20 + 1)))
end
def impl_SurfacesWith.f (k : Nat) (a0 : Int) : Option ((List (S33))) := if a0 < 1 then (impl_SurfacesWith.j0 k a0 true) else (impl_SurfacesWith.j0 k a0 (decide (a0 > 4)))
theorem impl_SurfacesWith.mono_l : ∀ k, (∀ y0 y1, LeO (impl_SurfacesWith.j0 k y0 y1) (impl_SurfacesWith.j0 (k + 1) y0 y1)) ∧ (∀ y0 y1 y2 y3 y4, LeO (impl_SurfacesWith.l0 k y0 y1 y2 y3 y4) (impl_SurfacesWith.l0 (k + 1) y0 y1 y2 y3 y4)) ∧ (∀ y0 y1 y2 y3 y4 y5 y6 y7 y8, LeO (impl_SurfacesWith.l1 k y0 y1 y2 y3 y4 y5 y6 y7 y8) (impl_SurfacesWith.l1 (k + 1) y0 y1 y2 y3 y4 y5 y6 y7 y8))
  | 0 => ⟨fun _ _ r h => by simp [impl_SurfacesWith.j0] at h, fun _ _ _ _ _ r h => by simp [impl_SurfacesWith.l0] at h, fun _ _ _ _ _ _ _ _ _ r h => by simp [impl_SurfacesWith.l1] at h⟩
  | k + 1 => by
    obtain ⟨ih0, ih1, ih2⟩ := impl_SurfacesWith.mono_l k
    refine ⟨?_, ?_, ?_⟩
    · intro y0 y1
      unfold impl_SurfacesWith.j0
      repeat' first|exact ih0 _ _|exact ih1 _ _ _ _ _|exact ih2 _ _ _ _ _ _ _ _ _|exact impl_CanonOf.mono _ _ _|exact impl_allPerms.mono _ _|exact lo_|refine LeO.ite ?_ ?_|refine LeO.bind ?_ (fun _ => ?_)
    · intro y0 y1 y2 y3 y4
      unfold impl_SurfacesWith.l0
      repeat' first|exact ih0 _ _|exact ih1 _ _ _ _ _|exact ih2 _ _ _ _ _ _ _ _ _|exact impl_CanonOf.mono _ _ _|exact impl_allPerms.mono _ _|exact lo_|refine LeO.ite ?_ ?_|refine LeO.bind ?_ (fun _ => ?_)
    · intro y0 y1 y2 y3 y4 y5 y6 y7 y8
      unfold impl_SurfacesWith.l1
      repeat' first|exact ih0 _ _|exact ih1 _ _ _ _ _|exact ih2 _ _ _ _ _ _ _ _ _|exact impl_CanonOf.mono _ _ _|exact impl_allPerms.mono _ _|exact lo_|refine LeO.ite ?_ ?_|refine LeO.bind ?_ (fun _ => ?_)
theorem impl_SurfacesWith.mono : ∀ a0 k, LeO (impl_SurfacesWith.f k a0) (impl_SurfacesWith.f (k + 1) a0) := by
  intro a0 k
  obtain ⟨ih0, ih1, ih2⟩ := impl_SurfacesWith.mono_l k
  unfold impl_SurfacesWith.f
  repeat' first|exact ih0 _ _|exact ih1 _ _ _ _ _|exact ih2 _ _ _ _ _ _ _ _ _|exact impl_CanonOf.mono _ _ _|exact impl_allPerms.mono _ _|exact lo_|refine LeO.ite ?_ ?_|refine LeO.bind ?_ (fun _ => ?_)
set_option maxHeartbeats 8000000 in
set_option maxRecDepth 100000 in
theorem impl_SurfacesWith.calls (k : Nat) (a0 : Int) (r : List (S33)) (w : World) (h : impl_SurfacesWith.f k a0 = some r) :
    Calls Try.prog 12 #[.int .i64 a0] w fun e w' => ∃ v0_ : Value, e = .returned (v0_) ∧ Kd.S k33 33 w' w.heap.size (fun _ => True) v0_ r ∧ Below w.heap.size w w' := by
  have hu33 := Try.underlying33
  have HB := Aside0.mk (Below.refl w.heap.size w)
  have H := h
  unfold impl_SurfacesWith.f at H
  clear h
  have HC2 := Aside0.mk H
  clear H
  go_enter Try.func12, Try.ntmps12
  go_upto_region 1 with (fail)
  go_cut [15] (fun v15 wc => ∃ (kq : Nat) (x15_1 : Bool), v15 = .bool x15_1 ∧ Aside0 (impl_SurfacesWith.j0 kq a0 x15_1 = some r) ∧ Aside0 (kq ≤ k) ∧ Aside0 (Below w.heap.size w wc))
  case first =>
    have H := HC2.out
    clear HC2
    by_cases c3 : a0 < 1
    · rw [if_pos c3] at H
      have c3b0 := decide_eq_true c3
      clear c3
      (first | rw [c3b0] | (simp only [i64_w, i32_w]; rw [c3b0]) | skip)
      have H' := Aside0.mk H
      clear H
      go_wp2
      go_meet
      case rel => exact ⟨_, (true), qc_, H', ⟨qd_⟩, ⟨hB_⟩⟩
    · rw [if_neg c3] at H
      have c3b0 := decide_eq_false c3
      clear c3
      (first | rw [c3b0] | (simp only [i64_w, i32_w]; rw [c3b0]) | skip)
      have H' := Aside0.mk H
      clear H
      go_wp2
      go_meet
      case rel => exact ⟨_, (decide (a0 > 4)), qc_, H', ⟨qd_⟩, ⟨hB_⟩⟩
  case rest =>
    clear HC2
    obtain ⟨kq, x15_1, rfl, HA, HJ1, HB⟩ := hcut
    cases kq with
    | zero => exact absurd HA.out (by simp [impl_SurfacesWith.j0])
    | succ kj1 =>
      have H := HA.out
      clear HA
      simp only [impl_SurfacesWith.j0] at H
      by_cases c4 : x15_1 = true
      · subst c4
        rw [if_pos rfl] at H
        obtain rfl := Option.some.inj H
        go_wp2
        go_ret
        exact ⟨_, qb_, by first | exact Kd.S_nil _ _ _ _ _ | exact Kd.N_nil _ _ _ _ _ | exact Kd.V_nil _ _ _ _ _ | exact Kd.Q_nil _ _ _ _ _ | exact Kd.R_nil _ _ _ _ _, hB_⟩
      · replace c4 := Bool.eq_false_iff.mpr c4
        subst c4
        have H1 : ((impl_allPerms.f kj1 a0).bind fun t268 => (impl_SurfacesWith.l0 kj1 a0 (([] : List (S33))) t268 (t268.length : Int) 0)) = some r := by rw [if_neg (show ¬ (false = true) by decide)] at H; exact H
        clear H
        have H := H1
        clear H1
        obtain ⟨y265, hy265⟩ : ∃ y_ : List (S33), y_ = (([] : List (S33))) := ⟨_, rfl⟩
        replace H : ((impl_allPerms.f kj1 a0).bind fun t268 => (impl_SurfacesWith.l0 kj1 a0 y265 t268 (t268.length : Int) 0)) = some r := by first | (rw [hy265]; exact H) | exact H
        have Ny265 := Aside0.mk hy265
        clear hy265
        obtain ⟨t268, A5, H⟩ := bi_ H
        have H' := Aside0.mk H
        clear H
        go_wp2_with (first | ((with_reducible refine gate_dst (N := 16) rfl ?_); refine Kd.S_lit k33 _ 33 ?hg (N := 16) ?hd (xs := ([] : List (S33))) (inner := []) (ok := (fun k_ => (w.heap.size ≤ k_))) (okp := (fun k_ => (w.heap.size ≤ k_))) ?hr ?hp (fun _ hk => hk) ((show ∀ k_, wc.heap.size ≤ k_ → (fun k_ => (w.heap.size ≤ k_)) k_ from fun k_ hk => (Nat.le_trans (below_size hB_) hk)) _ (Nat.le_refl _)) (Below.refl _ _) (Nat.le_refl _) (by simp) ?_; (case hd => rfl); (case hg => rfl); (case hr => first | (go_simp; done) | (go_simp; rfl)); (case hp => exact (Reps.none _ _)); intro v266 w6 ho7 hb hg_ hnew_; clear hg_ hnew_; (first | rw [← Ny265.out] at ho7 | (simp only [Int.reduceToNat] at ho7; rw [← Ny265.out] at ho7)); have HO267 := Aside0.mk (Kd.S_lower ho7 (below_size hB_)); replace HB := b1_ hb; clear hb ho7) | ((with_reducible refine gate_callee (f := 50) rfl ?_); refine gL_ (some 18) Try.func50 #[.int .i64 a0] rfl qa_ ?_; (with_reducible refine (impl_allPerms.calls kj1 a0 t268 _ A5.out).mono ?_); rintro e w8 ⟨v269, rfl, ho0, hb⟩; refine ⟨_, rfl, ?_⟩; have HO270 := Aside0.mk (Kd.N_lower (Kd.N_mono (ok' := fun k_ => (w.heap.size ≤ k_) ∧ some k_ ≠ (v266 : Value).ownBlock) ho0 (fun k_ hk_ => ⟨(Nat.le_trans (below_size hB_) hk_), (Kd.fresh' (Kd.S_lt (ss_ HO267)) k_ hk_)⟩)) (below_size hB_)); replace HO267 := Aside0.mk (Kd.S_elder' (ss_ HO267) (Kd.N_base ho0) hb); replace HB := b1_ hb; clear hb ho0; obtain ⟨Ao9, co9, eo9⟩ := Kd.N_slice HO270.out; subst eo9))
        go_loopg [3, 20] kj1 (fun kq v3 v20 w' => ∃ (x3_2 : List (S33)) (x20_2 : Int), v20 = .int .i64 x20_2 ∧ Aside0 (impl_SurfacesWith.l0 kq a0 x3_2 t268 (t268.length : Int) x20_2 = some r) ∧ Aside0 (kq ≤ kj1) ∧ Aside0 (Kd.S k33 33 w' w.heap.size (fun k_ => (w.heap.size ≤ k_) ∧ some k_ ≠ ((.slice Ao9 t268.length co9) : Value).ownBlock) v3 x3_2) ∧ Aside0 (Kd.N (Kd.slice 3 (Kd.int .i64)) 23 w' w.heap.size (fun k_ => (w.heap.size ≤ k_) ∧ some k_ ≠ (v3 : Value).ownBlock) (.slice Ao9 t268.length co9) t268) ∧ Aside0 (Below w.heap.size w w'))
        case atStart => exact ⟨(y265), (0), qc_, H', ⟨Nat.le_refl _⟩, ⟨(ss_ HO267)⟩, ⟨by (with_reducible repeat (first | apply Kd.N_alloc | apply Kd.N_drewN | apply Kd.N_drew)); exact HO270.out⟩, ⟨hB_⟩⟩
        case round =>
          clear H'
          obtain ⟨x3_2, x20_2, rfl, HA, HK2, HO_3, HO_18, HB⟩ := hrel
          cases gk with
          | zero => exact absurd HA.out (by simp [impl_SurfacesWith.l0])
          | succ k2 =>
            have H := HA.out
            clear HA
            simp only [impl_SurfacesWith.l0] at H
            by_cases c10 : x20_2 < (t268.length : Int)
            · rw [if_pos c10] at H
              have c10b0 := decide_eq_true c10
              clear c10
              have c11 := cp_ H
              replace H := ca_ H
              have c11b0 := decide_eq_true c11
              clear c11
              have c12 := cp_ H
              replace H := ca_ H
              have c12b0 := decide_eq_true c12
              clear c12
              obtain ⟨t275, A13, H⟩ := bi_ H
              have H' := Aside0.mk H
              clear H
              have p274 : 0 ≤ (x20_2 : Int) := of_decide_eq_true qe_
              have q274 : x20_2 < (t268.length : Int) := of_decide_eq_true qe_
              obtain ⟨ad274, A274_0, c274_0, e274, hx274_0, hl274_0, hi274_0⟩ := at_L5 (Kd.N_reads' HO_18.out).2.2 x20_2 p274 q274
              cases e274
              obtain ⟨ce274, hce274, hMe274, hcc274⟩ := Kd.N_get HO_18.out [] x20_2 p274 (by first | exact q274 | exact of_decide_eq_true qe_ | (have e_ := (Kd.N_reads' HO_18.out).1; omega))
              obtain ⟨ua274_0, uc274_0, rfl, ul274_0, ge274_0⟩ := Kd.FK_slice_open hMe274
              have hv274_0 := hcc274 0 _ rfl
              rw [Nat.add_zero, show ((Kd.slice 3 (Kd.int .i64))).sz = 1 from rfl, Nat.mul_one] at hv274_0
              replace hv274_0 := Option.some.inj (hv274_0.symm.trans hx274_0)
              injection hv274_0 with hva_ hvn_ hvc_
              rw [hva_] at ge274_0
              rw [hvc_] at ul274_0
              have HL274_0 := Aside0.mk (show Kd.V (Kd.int .i64) 3 _ w.heap.size _ _ (rd_L5 t268 x20_2) from Kd.V_mk ul274_0 ge274_0)
              clear hva_ hvn_ hvc_ ge274_0 ul274_0
              clear hcc274 hce274
              have HR274_0 := Aside0.mk hi274_0
              have HC274_0 := Aside0.mk hl274_0
              clear hi274_0 hl274_0
              replace p274 := eq_true p274
              replace q274 := eq_true q274
              go_wp2_with (first | ((with_reducible refine gate_callee (f := 50) rfl ?_); refine gL_ (some 25) Try.func50 #[.int .i64 a0] rfl qa_ ?_; (with_reducible refine (impl_allPerms.calls k2 a0 t275 _ A13.out).mono ?_); rintro e w14 ⟨v276, rfl, ho0, hb⟩; refine ⟨_, rfl, ?_⟩; replace HL274_0 := Aside0.mk (Kd.V_elder' (by (with_reducible repeat (first | apply Kd.V_alloc | apply Kd.V_drewN | apply Kd.V_drew)); exact HL274_0.out) (Kd.N_base ho0) hb); have HO277 := Aside0.mk (Kd.N_lower (Kd.N_mono (ok' := fun k_ => (w.heap.size ≤ k_) ∧ some k_ ≠ (u3 : Value).ownBlock ∧ some k_ ≠ (.slice (some ad274) t268.length co9 : Value).ownBlock) ho0 (fun k_ hk_ => ⟨(Nat.le_trans (below_size hB_) hk_), (Kd.fresh' (Kd.S_lt (ss_ HO_3)) k_ hk_), (Kd.fresh' (Kd.N_lt (by (with_reducible repeat (first | apply Kd.N_alloc | apply Kd.N_drewN | apply Kd.N_drew)); exact HO_18.out)) k_ hk_)⟩)) (below_size hB_)); replace HO_3 := Aside0.mk (Kd.S_elder' (ss_ HO_3) (Kd.N_base ho0) hb); replace HO_18 := Aside0.mk (Kd.N_elder' (by (with_reducible repeat (first | apply Kd.N_alloc | apply Kd.N_drewN | apply Kd.N_drew)); exact HO_18.out) (Kd.N_base ho0) hb); replace HR274_0 := Aside0.mk (Kd.C_below (by repeat (first | (with_reducible exact HR274_0.out) | (with_reducible refine Kd.C_alloc ?_ _) | (with_reducible refine Kd.C_drewN ?_ _) | (with_reducible refine Kd.C_drew ?_) | exact HR274_0.out)) hb); replace HB := b1_ hb; clear hb ho0; obtain ⟨Ao15, co15, eo15⟩ := Kd.N_slice HO277.out; subst eo15))
              go_loopg [3, 27] k2 (fun kq v3 v27 w' => ∃ (x3_3 : List (S33)) (x27_3 : Int), v27 = .int .i64 x27_3 ∧ Aside0 (impl_SurfacesWith.l1 kq a0 x3_3 (rd_L5 t268 x20_2) t268 (t268.length : Int) x20_2 t275 (t275.length : Int) x27_3 = some r) ∧ Aside0 (kq ≤ k2) ∧ Aside0 (Kd.S k33 33 w' w.heap.size (fun k_ => (w.heap.size ≤ k_) ∧ some k_ ≠ ((.slice (some ad274) t268.length co9) : Value).ownBlock ∧ some k_ ≠ ((.slice Ao15 t275.length co15) : Value).ownBlock) v3 x3_3) ∧ Aside0 (Kd.V (Kd.int .i64) 3 w' w.heap.size (fun k_ => (w.heap.size ≤ k_) ∧ some k_ ≠ (v3 : Value).ownBlock ∧ some k_ ≠ ((.slice (some ad274) t268.length co9) : Value).ownBlock ∧ some k_ ≠ ((.slice Ao15 t275.length co15) : Value).ownBlock) (.slice A274_0 (rd_L5 t268 x20_2).length c274_0) (rd_L5 t268 x20_2)) ∧ Aside0 (Kd.N (Kd.slice 3 (Kd.int .i64)) 23 w' w.heap.size (fun k_ => (w.heap.size ≤ k_) ∧ some k_ ≠ (v3 : Value).ownBlock ∧ some k_ ≠ ((.slice Ao15 t275.length co15) : Value).ownBlock) (.slice (some ad274) t268.length co9) t268) ∧ Aside0 (Kd.N (Kd.slice 3 (Kd.int .i64)) 23 w' w.heap.size (fun k_ => (w.heap.size ≤ k_) ∧ some k_ ≠ (v3 : Value).ownBlock ∧ some k_ ≠ ((.slice (some ad274) t268.length co9) : Value).ownBlock) (.slice Ao15 t275.length co15) t275) ∧ Aside0 (Below w.heap.size w w'))
              case atStart => exact ⟨(x3_2), (0), qc_, H', ⟨Nat.le_refl _⟩, ⟨(sw_ (Kd.S_mono HO_3.out (fun _ hk => ⟨hk.1.1, ⟨hk.1.2, hk.2⟩⟩)))⟩, ⟨by (with_reducible repeat (first | apply Kd.V_alloc | apply Kd.V_drewN | apply Kd.V_drew)); exact Kd.V_mono HL274_0.out (fun _ hk => ⟨hk.1.1.1, ⟨hk.1.1.2, ⟨hk.1.2, hk.2⟩⟩⟩)⟩, ⟨by (with_reducible repeat (first | apply Kd.N_alloc | apply Kd.N_drewN | apply Kd.N_drew)); exact Kd.N_mono HO_18.out (fun _ hk => ⟨hk.1.1, ⟨hk.1.2, hk.2⟩⟩)⟩, ⟨by (with_reducible repeat (first | apply Kd.N_alloc | apply Kd.N_drewN | apply Kd.N_drew)); exact HO277.out⟩, ⟨hB_⟩⟩
              case round =>
                clear H'
                obtain ⟨x3_3, x27_3, rfl, HA, HK3, HO_3, HO_5, HO_18, HO_25, HB⟩ := hrel
                cases gk with
                | zero => exact absurd HA.out (by simp [impl_SurfacesWith.l1])
                | succ k3 =>
                  have H := HA.out
                  clear HA
                  simp only [impl_SurfacesWith.l1] at H
                  by_cases c16 : x27_3 < (t275.length : Int)
                  · rw [if_pos c16] at H
                    have c16b0 := decide_eq_true c16
                    clear c16
                    have c17 := cp_ H
                    replace H := ca_ H
                    have c17b0 := decide_eq_true c17
                    clear c17
                    have c18 := cp_ H
                    replace H := ca_ H
                    have c18b0 := decide_eq_true c18
                    clear c18
                    obtain ⟨⟨t279, t282, t285⟩, A19, H⟩ := bi_ H
                    try dsimp only at H
                    by_cases c20 : t285 = true
                    · subst c20
                      rw [if_pos rfl] at H
                      have c21 := cp_ H
                      replace H := ca_ H
                      have LMc21 := Aside0.mk c21
                      clear c21
                      obtain ⟨y287, hy287⟩ : ∃ y_ : List (S33), y_ = (x3_3 ++ [(⟨t279, t282⟩ : S33)]) := ⟨_, rfl⟩
                      replace H : (impl_SurfacesWith.l1 k3 a0 y287 (rd_L5 t268 x20_2) t268 (t268.length : Int) x20_2 t275 (t275.length : Int) (wrap64 (x27_3 + 1))) = some r := by first | (rw [hy287]; exact H) | exact H
                      have Ny287 := Aside0.mk hy287
                      clear hy287
                      have H' := Aside0.mk H
                      clear H
                      have p278 : 0 ≤ (x27_3 : Int) := of_decide_eq_true qe_
                      have q278 : x27_3 < (t275.length : Int) := of_decide_eq_true qe_
                      obtain ⟨ad278, A278_0, c278_0, e278, hx278_0, hl278_0, hi278_0⟩ := at_L5 (Kd.N_reads' HO_25.out).2.2 x27_3 p278 q278
                      cases e278
                      obtain ⟨ce278, hce278, hMe278, hcc278⟩ := Kd.N_get HO_25.out [] x27_3 p278 (by first | exact q278 | exact of_decide_eq_true qe_ | (have e_ := (Kd.N_reads' HO_25.out).1; omega))
                      obtain ⟨ua278_0, uc278_0, rfl, ul278_0, ge278_0⟩ := Kd.FK_slice_open hMe278
                      have hv278_0 := hcc278 0 _ rfl
                      rw [Nat.add_zero, show ((Kd.slice 3 (Kd.int .i64))).sz = 1 from rfl, Nat.mul_one] at hv278_0
                      replace hv278_0 := Option.some.inj (hv278_0.symm.trans hx278_0)
                      injection hv278_0 with hva_ hvn_ hvc_
                      rw [hva_] at ge278_0
                      rw [hvc_] at ul278_0
                      have HL278_0 := Aside0.mk (show Kd.V (Kd.int .i64) 3 _ w.heap.size _ _ (rd_L5 t275 x27_3) from Kd.V_mk ul278_0 ge278_0)
                      clear hva_ hvn_ hvc_ ge278_0 ul278_0
                      clear hcc278 hce278
                      have HR278_0 := Aside0.mk hi278_0
                      have HC278_0 := Aside0.mk hl278_0
                      clear hi278_0 hl278_0
                      replace p278 := eq_true p278
                      replace q278 := eq_true q278
                      go_wp2_with (first | ((with_reducible refine gate_callee (f := 17) rfl ?_); refine gL_ (some 35) Try.func17 #[.agg #[.slice A274_0 (rd_L5 t268 x20_2).length c274_0, .slice A278_0 (rd_L5 t275 x27_3).length c278_0]] rfl qa_ ?_; (with_reducible refine (impl_CanonOf.calls k3 _ _ (rd_L5 t268 x20_2) _ _ (rd_L5 t275 x27_3) t279 t282 true _ ?side1 ?side2 ?side3 ?side4 A19.out).mono ?_); (case side1 => exact cw_ ((Kd.V_reads' HO_5.out).2.2)); (case side2 => exact (Kd.V_reads' HO_5.out).2.1); (case side3 => repeat (first | exact (by repeat (first | (with_reducible exact HR278_0.out) | (with_reducible refine Kd.C_alloc ?_ _) | (with_reducible refine Kd.C_drewN ?_ _) | (with_reducible refine Kd.C_drew ?_) | exact HR278_0.out)) | (with_reducible refine Kd.C_alloc ?_ _) | (with_reducible refine Kd.C_drewN ?_ _) | (with_reducible refine Kd.C_drew ?_))); (case side4 => exact HC278_0.out); rintro e w22 ⟨v280, v283, rfl, ho0, ho1, hb⟩; refine ⟨_, rfl, ?_⟩; replace HO_3 := Aside0.mk (Kd.S_mono (Kd.S_told (Kd.S_told (Kd.S_old (ss_ HO_3) hb) (Kd.R_base ho0)) (Kd.R_base ho1)) (fun _ h_ => h_.1)); replace HO_5 := Aside0.mk (Kd.V_mono (Kd.V_told (Kd.V_told (Kd.V_old (by (with_reducible repeat (first | apply Kd.V_alloc | apply Kd.V_drewN | apply Kd.V_drew)); exact HO_5.out) hb) (Kd.R_base ho0)) (Kd.R_base ho1)) (fun _ h_ => h_.1)); replace HO_18 := Aside0.mk (Kd.N_mono (Kd.N_told (Kd.N_told (Kd.N_old (by (with_reducible repeat (first | apply Kd.N_alloc | apply Kd.N_drewN | apply Kd.N_drew)); exact HO_18.out) hb) (Kd.R_base ho0)) (Kd.R_base ho1)) (fun _ h_ => h_.1)); replace HO_25 := Aside0.mk (Kd.N_mono (Kd.N_told (Kd.N_told (Kd.N_old (by (with_reducible repeat (first | apply Kd.N_alloc | apply Kd.N_drewN | apply Kd.N_drew)); exact HO_25.out) hb) (Kd.R_base ho0)) (Kd.R_base ho1)) (fun _ h_ => h_.1)); replace HL278_0 := Aside0.mk (Kd.V_mono (Kd.V_told (Kd.V_told (Kd.V_old (by (with_reducible repeat (first | apply Kd.V_alloc | apply Kd.V_drewN | apply Kd.V_drew)); exact HL278_0.out) hb) (Kd.R_base ho0)) (Kd.R_base ho1)) (fun _ h_ => h_.1)); have HO281 := Aside0.mk (Kd.R_lower (Kd.R_newM (M := fun k_ => (w.heap.size ≤ k_)) ho0 (below_size hB_) (fun k_ h_ => h_)) (below_size hB_)); have HO284 := Aside0.mk (Kd.R_lower (Kd.R_newM (M := fun k_ => (w.heap.size ≤ k_)) ho1 (below_size hB_) (fun k_ h_ => h_)) (below_size hB_)); replace HR278_0 := Aside0.mk (Kd.C_below (by repeat (first | (with_reducible exact HR278_0.out) | (with_reducible refine Kd.C_alloc ?_ _) | (with_reducible refine Kd.C_drewN ?_ _) | (with_reducible refine Kd.C_drew ?_) | exact HR278_0.out)) hb); replace HB := b1_ hb; clear hb ho0 ho1) | ((with_reducible refine gate_dst (N := 8) rfl ?_); refine bx_ 8 #[.slice none 0 0, .slice none 0 0] 33 ?_; intro gb286 hg w23 hbox hb; replace HO_3 := Aside0.mk (Kd.S_below (Kd.S_elderB (ss_ HO_3) gb286 (Nat.le_of_eq hg.symm)) hb); replace HO_5 := Aside0.mk (Kd.V_below (Kd.V_elderB (by (with_reducible repeat (first | apply Kd.V_alloc | apply Kd.V_drewN | apply Kd.V_drew)); exact HO_5.out) gb286 (Nat.le_of_eq hg.symm)) hb); replace HO_18 := Aside0.mk (Kd.N_below (Kd.N_elderB (by (with_reducible repeat (first | apply Kd.N_alloc | apply Kd.N_drewN | apply Kd.N_drew)); exact HO_18.out) gb286 (Nat.le_of_eq hg.symm)) hb); replace HO_25 := Aside0.mk (Kd.N_below (Kd.N_elderB (by (with_reducible repeat (first | apply Kd.N_alloc | apply Kd.N_drewN | apply Kd.N_drew)); exact HO_25.out) gb286 (Nat.le_of_eq hg.symm)) hb); replace HL278_0 := Aside0.mk (Kd.V_below (Kd.V_elderB (by (with_reducible repeat (first | apply Kd.V_alloc | apply Kd.V_drewN | apply Kd.V_drew)); exact HL278_0.out) gb286 (Nat.le_of_eq hg.symm)) hb); replace HO281 := rb_ HO281 hb; replace HO284 := rb_ HO284 hb; replace HR278_0 := Aside0.mk (Kd.C_below (by repeat (first | (with_reducible exact HR278_0.out) | (with_reducible refine Kd.C_alloc ?_ _) | (with_reducible refine Kd.C_drewN ?_ _) | (with_reducible refine Kd.C_drew ?_) | exact HR278_0.out)) hb); have BK286 := Aside0.mk hbox; have GW286 := gw_ w hg; have GE286 := GW286; replace HB := b1_ hb; clear hb hbox hg; obtain ⟨Ao24, co24, eo24⟩ := Kd.R_slice HO281.out; subst eo24; obtain ⟨hcz25_0, hcz25_1, hfz25_0, hfz25_1⟩ := c2_ BK286; obtain ⟨Ao26, co26, eo26⟩ := Kd.R_slice HO284.out; subst eo26) | ((with_reducible refine gate_store (t := 33) (p := 8) rfl ?_); refine store_event (t := 33) (p := 8) (v := ?vo_w27) (w1 := ((w23.setCell ⟨gb286, 0, none⟩ (.slice Ao24 t279.length co24)).setCell ⟨gb286, 1, none⟩ (.slice Ao26 t282.length co26))) ?hg ?ho ?hn ?hr ?_; (case ho => rfl); (case hg => rfl); (case hn => rfl); (case hr => first | (go_simp; done) | (go_simp; rfl)); intro w27 hw; have n0_ : Aside0 (Kd.S k33 33 w27 w.heap.size (fun k_ => (w.heap.size ≤ k_) ∧ some k_ ≠ (.slice (some ad274) t268.length co9 : Value).ownBlock ∧ some k_ ≠ (.slice (some ad278) t275.length co15 : Value).ownBlock ∧ some k_ ≠ (.slice Ao24 t279.length co24 : Value).ownBlock ∧ some k_ ≠ (.slice Ao26 t282.length co26 : Value).ownBlock ∧ k_ ≠ gb286) u3 x3_3) := ⟨(by rw [hw]; exact (sw_ (Kd.S_mono (Kd.S_far (p := ⟨gb286, 1, none⟩) (Kd.S_far (p := ⟨gb286, 0, none⟩) (Kd.S_mono HO_3.out (fun k_ hk => (⟨hk, hk.2⟩ : _ ∧ k_ ≠ gb286))) (fun _ hk => hk.2) (.slice Ao24 t279.length co24)) (fun _ hk => hk.2) (.slice Ao26 t282.length co26)) (fun _ hk => ⟨hk.1.1.1.1.1, ⟨hk.1.1.1.1.2.1, ⟨hk.1.1.1.1.2.2, ⟨hk.1.1.1.2, ⟨hk.1.1.2, hk.1.2⟩⟩⟩⟩⟩))))⟩; have n1_ : Aside0 (Kd.V (Kd.int .i64) 3 w27 w.heap.size (fun k_ => (w.heap.size ≤ k_) ∧ some k_ ≠ (u3 : Value).ownBlock ∧ some k_ ≠ (.slice (some ad274) t268.length co9 : Value).ownBlock ∧ some k_ ≠ (.slice (some ad278) t275.length co15 : Value).ownBlock ∧ some k_ ≠ (.slice Ao24 t279.length co24 : Value).ownBlock ∧ some k_ ≠ (.slice Ao26 t282.length co26 : Value).ownBlock ∧ k_ ≠ gb286) (.slice A274_0 (rd_L5 t268 x20_2).length c274_0) (rd_L5 t268 x20_2)) := ⟨(by rw [hw]; exact (by (with_reducible repeat (first | apply Kd.V_alloc | apply Kd.V_drewN | apply Kd.V_drew)); exact Kd.V_mono (Kd.V_far (p := ⟨gb286, 1, none⟩) (Kd.V_far (p := ⟨gb286, 0, none⟩) (Kd.V_mono HO_5.out (fun k_ hk => (⟨hk, hk.2⟩ : _ ∧ k_ ≠ gb286))) (fun _ hk => hk.2) (.slice Ao24 t279.length co24)) (fun _ hk => hk.2) (.slice Ao26 t282.length co26)) (fun _ hk => ⟨hk.1.1.1.1.1, ⟨hk.1.1.1.1.2.1, ⟨hk.1.1.1.1.2.2.1, ⟨hk.1.1.1.1.2.2.2, ⟨hk.1.1.1.2, ⟨hk.1.1.2, hk.1.2⟩⟩⟩⟩⟩⟩)))⟩; have n2_ : Aside0 (Kd.N (Kd.slice 3 (Kd.int .i64)) 23 w27 w.heap.size (fun k_ => (w.heap.size ≤ k_) ∧ some k_ ≠ (u3 : Value).ownBlock ∧ some k_ ≠ (.slice (some ad278) t275.length co15 : Value).ownBlock ∧ some k_ ≠ (.slice Ao24 t279.length co24 : Value).ownBlock ∧ some k_ ≠ (.slice Ao26 t282.length co26 : Value).ownBlock ∧ k_ ≠ gb286) (.slice (some ad274) t268.length co9) t268) := ⟨(by rw [hw]; exact (by (with_reducible repeat (first | apply Kd.N_alloc | apply Kd.N_drewN | apply Kd.N_drew)); exact Kd.N_mono (Kd.N_far (p := ⟨gb286, 1, none⟩) (Kd.N_far (p := ⟨gb286, 0, none⟩) (Kd.N_mono HO_18.out (fun k_ hk => (⟨hk, hk.2⟩ : _ ∧ k_ ≠ gb286))) (fun _ hk => hk.2) (.slice Ao24 t279.length co24)) (fun _ hk => hk.2) (.slice Ao26 t282.length co26)) (fun _ hk => ⟨hk.1.1.1.1.1, ⟨hk.1.1.1.1.2.1, ⟨hk.1.1.1.1.2.2, ⟨hk.1.1.1.2, ⟨hk.1.1.2, hk.1.2⟩⟩⟩⟩⟩)))⟩; have n3_ : Aside0 (Kd.N (Kd.slice 3 (Kd.int .i64)) 23 w27 w.heap.size (fun k_ => (w.heap.size ≤ k_) ∧ some k_ ≠ (u3 : Value).ownBlock ∧ some k_ ≠ (.slice (some ad274) t268.length co9 : Value).ownBlock ∧ some k_ ≠ (.slice Ao24 t279.length co24 : Value).ownBlock ∧ some k_ ≠ (.slice Ao26 t282.length co26 : Value).ownBlock ∧ k_ ≠ gb286) (.slice (some ad278) t275.length co15) t275) := ⟨(by rw [hw]; exact (by (with_reducible repeat (first | apply Kd.N_alloc | apply Kd.N_drewN | apply Kd.N_drew)); exact Kd.N_mono (Kd.N_far (p := ⟨gb286, 1, none⟩) (Kd.N_far (p := ⟨gb286, 0, none⟩) (Kd.N_mono HO_25.out (fun k_ hk => (⟨hk, hk.2⟩ : _ ∧ k_ ≠ gb286))) (fun _ hk => hk.2) (.slice Ao24 t279.length co24)) (fun _ hk => hk.2) (.slice Ao26 t282.length co26)) (fun _ hk => ⟨hk.1.1.1.1.1, ⟨hk.1.1.1.1.2.1, ⟨hk.1.1.1.1.2.2, ⟨hk.1.1.1.2, ⟨hk.1.1.2, hk.1.2⟩⟩⟩⟩⟩)))⟩; have n4_ : Aside0 (Kd.V (Kd.int .i64) 3 w27 w.heap.size (fun k_ => (w.heap.size ≤ k_) ∧ some k_ ≠ (u3 : Value).ownBlock ∧ some k_ ≠ (.slice (some ad274) t268.length co9 : Value).ownBlock ∧ some k_ ≠ (.slice (some ad278) t275.length co15 : Value).ownBlock ∧ some k_ ≠ (.slice Ao24 t279.length co24 : Value).ownBlock ∧ some k_ ≠ (.slice Ao26 t282.length co26 : Value).ownBlock ∧ k_ ≠ gb286) (.slice A278_0 (rd_L5 t275 x27_3).length c278_0) (rd_L5 t275 x27_3)) := ⟨(by rw [hw]; exact (by (with_reducible repeat (first | apply Kd.V_alloc | apply Kd.V_drewN | apply Kd.V_drew)); exact Kd.V_mono (Kd.V_far (p := ⟨gb286, 1, none⟩) (Kd.V_far (p := ⟨gb286, 0, none⟩) (Kd.V_mono HL278_0.out (fun k_ hk => (⟨hk, hk.2⟩ : _ ∧ k_ ≠ gb286))) (fun _ hk => hk.2) (.slice Ao24 t279.length co24)) (fun _ hk => hk.2) (.slice Ao26 t282.length co26)) (fun _ hk => ⟨hk.1.1.1.1.1.1, ⟨hk.1.1.1.1.1.2.1, ⟨hk.1.1.1.1.1.2.2, ⟨hk.1.1.1.1.2, ⟨hk.1.1.1.2, ⟨hk.1.1.2, hk.1.2⟩⟩⟩⟩⟩⟩)))⟩; have n5_ : Aside0 (Kd.R (Kd.int .i64) 3 w27 w.heap.size (fun k_ => (w.heap.size ≤ k_) ∧ some k_ ≠ (.slice Ao26 t282.length co26 : Value).ownBlock) (.slice Ao24 t279.length co24) t279) := ⟨(by rw [hw]; exact (rw_ (Kd.R_mono (Kd.R_far (p := ⟨gb286, 1, none⟩) (Kd.R_far (p := ⟨gb286, 0, none⟩) (Kd.R_types HO281.out BK286.out (by decide)) (fun _ hk => hk.2) (.slice Ao24 t279.length co24)) (fun _ hk => hk.2) (.slice Ao26 t282.length co26)) (fun _ hk => ⟨hk.1.1, hk.1.2⟩))))⟩; have n6_ : Aside0 (Kd.R (Kd.int .i64) 3 w27 w.heap.size (fun k_ => (w.heap.size ≤ k_) ∧ some k_ ≠ (.slice Ao24 t279.length co24 : Value).ownBlock) (.slice Ao26 t282.length co26) t282) := ⟨(by rw [hw]; exact (rw_ (Kd.R_mono (Kd.R_far (p := ⟨gb286, 1, none⟩) (Kd.R_far (p := ⟨gb286, 0, none⟩) (Kd.R_types HO284.out BK286.out (by decide)) (fun _ hk => hk.2) (.slice Ao24 t279.length co24)) (fun _ hk => hk.2) (.slice Ao26 t282.length co26)) (fun _ hk => ⟨hk.1.1, hk.1.2⟩))))⟩; have n7_ : Aside0 (w27.heap[gb286]? = some (.cells #[.slice Ao24 t279.length co24, .slice Ao26 t282.length co26] 33 (0, 0))) := ⟨(by rw [hw]; exact qp_)⟩; have n8_ : Aside0 (Below w.heap.size w w27) := ⟨(by rw [hw]; exact hB_)⟩; clear hw; clear HO_3; clear HO_5; clear HO_18; clear HO_25; clear HL278_0; clear HO281; clear HO284; clear BK286; clear HB; have HO_3 := n0_; have HO_5 := n1_; have HO_18 := n2_; have HO_25 := n3_; have HL278_0 := n4_; have HO281 := n5_; have HO284 := n6_; have BK286 := n7_; have HB := n8_; clear n0_ n1_ n2_ n3_ n4_ n5_ n6_ n7_ n8_; obtain ⟨hcz28_0, hcz28_1, hfz28_0, hfz28_1⟩ := c2_ BK286) | ((with_reducible refine gate_builtin (b := .append) (xs := #[.tmp 39, .tmp 41]) rfl ?_); at_builtin; refine Kd.S_append k33 (w0 := w) w.heap.size rfl (.tmp 39) (.tmp 41) 25 33 (.agg #[(.slice none 0 0), (.slice none 0 0)]) 48 rfl Try.underlying25 info33 rfl (by decide) (by omega) u3 x3_3 (⟨t279, t282⟩ : S33) [.slice Ao24 t279.length co24, .slice Ao26 t282.length co26] (fun k_ => (w.heap.size ≤ k_) ∧ some k_ ≠ (.slice (some ad274) t268.length co9 : Value).ownBlock ∧ some k_ ≠ (.slice (some ad278) t275.length co15 : Value).ownBlock ∧ k_ ≠ gb286) (fun k_ => some k_ = (.slice Ao24 t279.length co24 : Value).ownBlock ∨ some k_ = (.slice Ao26 t282.length co26 : Value).ownBlock) rfl rfl ?aP ?aK ?aF ?aO ?aB ?aS ?aL ?_; (case aP => exact k33_mkM _ _ _ (⟨t279, t282⟩ : S33) (Kd.R_mono (Kd.R_tight rfl (Kd.R_mono (ok' := (fun k_ => ((fun k_ => (w.heap.size ≤ k_) ∧ some k_ ≠ (.slice (some ad274) t268.length co9 : Value).ownBlock ∧ some k_ ≠ (.slice (some ad278) t275.length co15 : Value).ownBlock ∧ k_ ≠ gb286)) k_ ∧ some k_ ≠ (u3 : Value).ownBlock)) (Kd.R_types (Kd.R_apart' (Kd.R_apart' (Kd.R_apart' (HO281.out) (Kd.N_typed HO_18.out) (by decide)) (Kd.N_typed HO_25.out) (by decide)) (Kd.S_typed HO_3.out) (by decide)) BK286.out (by decide)) (fun k_ hk => ⟨⟨hk.1.1.1.1.1, ⟨hk.1.1.1.2, ⟨hk.1.1.2, hk.2⟩⟩⟩, hk.1.2⟩))) (fun _ hk => .inl hk)) (Kd.R_mono (Kd.R_tight rfl (Kd.R_mono (ok' := (fun k_ => ((fun k_ => (w.heap.size ≤ k_) ∧ some k_ ≠ (.slice (some ad274) t268.length co9 : Value).ownBlock ∧ some k_ ≠ (.slice (some ad278) t275.length co15 : Value).ownBlock ∧ k_ ≠ gb286)) k_ ∧ some k_ ≠ (u3 : Value).ownBlock)) (Kd.R_types (Kd.R_apart' (Kd.R_apart' (Kd.R_apart' (HO284.out) (Kd.N_typed HO_18.out) (by decide)) (Kd.N_typed HO_25.out) (by decide)) (Kd.S_typed HO_3.out) (by decide)) BK286.out (by decide)) (fun k_ hk => ⟨⟨hk.1.1.1.1.1, ⟨hk.1.1.1.2, ⟨hk.1.1.2, hk.2⟩⟩⟩, hk.1.2⟩))) (fun _ hk => .inr hk)) (fun k_ h0_ h1_ => (HO281.out.1 k_ h0_).2 h1_.symm)); (case aK => exact (fun k_ hk => hk.elim (fun e_ => ((Kd.R_mono (ok' := (fun k_ => ((fun k_ => (w.heap.size ≤ k_) ∧ some k_ ≠ (.slice (some ad274) t268.length co9 : Value).ownBlock ∧ some k_ ≠ (.slice (some ad278) t275.length co15 : Value).ownBlock ∧ k_ ≠ gb286)) k_ ∧ some k_ ≠ (u3 : Value).ownBlock)) (Kd.R_types (Kd.R_apart' (Kd.R_apart' (Kd.R_apart' (HO281.out) (Kd.N_typed HO_18.out) (by decide)) (Kd.N_typed HO_25.out) (by decide)) (Kd.S_typed HO_3.out) (by decide)) BK286.out (by decide)) (fun k_ hk => ⟨⟨hk.1.1.1.1.1, ⟨hk.1.1.1.2, ⟨hk.1.1.2, hk.2⟩⟩⟩, hk.1.2⟩))).1 k_ e_.symm) (fun e_ => ((Kd.R_mono (ok' := (fun k_ => ((fun k_ => (w.heap.size ≤ k_) ∧ some k_ ≠ (.slice (some ad274) t268.length co9 : Value).ownBlock ∧ some k_ ≠ (.slice (some ad278) t275.length co15 : Value).ownBlock ∧ k_ ≠ gb286)) k_ ∧ some k_ ≠ (u3 : Value).ownBlock)) (Kd.R_types (Kd.R_apart' (Kd.R_apart' (Kd.R_apart' (HO284.out) (Kd.N_typed HO_18.out) (by decide)) (Kd.N_typed HO_25.out) (by decide)) (Kd.S_typed HO_3.out) (by decide)) BK286.out (by decide)) (fun k_ hk => ⟨⟨hk.1.1.1.1.1, ⟨hk.1.1.1.2, ⟨hk.1.1.2, hk.2⟩⟩⟩, hk.1.2⟩))).1 k_ e_.symm))); (case aB => exact hB_); (case aF => exact (fun k_ hk => ⟨(Nat.le_trans (below_size hB_) hk), Kd.fresh' (Kd.N_lt (by (with_reducible repeat (first | apply Kd.N_alloc | apply Kd.N_drewN | apply Kd.N_drew)); exact HO_18.out)) k_ hk, Kd.fresh' (Kd.N_lt (by (with_reducible repeat (first | apply Kd.N_alloc | apply Kd.N_drewN | apply Kd.N_drew)); exact HO_25.out)) k_ hk, Kd.freshB (kk_ BK286) k_ hk⟩)); (case aO => exact (sw_ (Kd.S_mono HO_3.out (fun _ hk => ⟨⟨hk.1, ⟨hk.2.1, ⟨hk.2.2.1, hk.2.2.2.2.2⟩⟩⟩, fun e_ => e_.elim hk.2.2.2.1 hk.2.2.2.2.1⟩)))); (case aS => exact (below_size hB_)); (case aL => have := LMc21.out; omega); intro v288 w29 ho hb hg hat; rw [← Ny287.out] at ho; replace HO_5 := Aside0.mk (Kd.V_afterv (ok := (fun k_ => (w.heap.size ≤ k_) ∧ some k_ ≠ (.slice (some ad274) t268.length co9 : Value).ownBlock ∧ some k_ ≠ (.slice (some ad278) t275.length co15 : Value).ownBlock ∧ some k_ ≠ (.slice Ao24 t279.length co24 : Value).ownBlock ∧ some k_ ≠ (.slice Ao26 t282.length co26 : Value).ownBlock ∧ k_ ≠ gb286)) (by (with_reducible repeat (first | apply Kd.V_alloc | apply Kd.V_drewN | apply Kd.V_drew)); exact Kd.V_mono HO_5.out (fun _ hk => ⟨⟨hk.1, ⟨hk.2.2.1, ⟨hk.2.2.2.1, ⟨hk.2.2.2.2.1, ⟨hk.2.2.2.2.2.1, hk.2.2.2.2.2.2⟩⟩⟩⟩⟩, hk.2.1⟩)) hg hat); replace HO_18 := Aside0.mk (Kd.N_afterv (ok := (fun k_ => (w.heap.size ≤ k_) ∧ some k_ ≠ (.slice (some ad278) t275.length co15 : Value).ownBlock ∧ some k_ ≠ (.slice Ao24 t279.length co24 : Value).ownBlock ∧ some k_ ≠ (.slice Ao26 t282.length co26 : Value).ownBlock ∧ k_ ≠ gb286)) (by (with_reducible repeat (first | apply Kd.N_alloc | apply Kd.N_drewN | apply Kd.N_drew)); exact Kd.N_mono HO_18.out (fun _ hk => ⟨⟨hk.1, ⟨hk.2.2.1, ⟨hk.2.2.2.1, ⟨hk.2.2.2.2.1, hk.2.2.2.2.2⟩⟩⟩⟩, hk.2.1⟩)) hg hat); replace HO_25 := Aside0.mk (Kd.N_afterv (ok := (fun k_ => (w.heap.size ≤ k_) ∧ some k_ ≠ (.slice (some ad274) t268.length co9 : Value).ownBlock ∧ some k_ ≠ (.slice Ao24 t279.length co24 : Value).ownBlock ∧ some k_ ≠ (.slice Ao26 t282.length co26 : Value).ownBlock ∧ k_ ≠ gb286)) (by (with_reducible repeat (first | apply Kd.N_alloc | apply Kd.N_drewN | apply Kd.N_drew)); exact Kd.N_mono HO_25.out (fun _ hk => ⟨⟨hk.1, ⟨hk.2.2.1, ⟨hk.2.2.2.1, ⟨hk.2.2.2.2.1, hk.2.2.2.2.2⟩⟩⟩⟩, hk.2.1⟩)) hg hat); replace HL278_0 := Aside0.mk (Kd.V_afterv (ok := (fun k_ => (w.heap.size ≤ k_) ∧ some k_ ≠ (.slice (some ad274) t268.length co9 : Value).ownBlock ∧ some k_ ≠ (.slice (some ad278) t275.length co15 : Value).ownBlock ∧ some k_ ≠ (.slice Ao24 t279.length co24 : Value).ownBlock ∧ some k_ ≠ (.slice Ao26 t282.length co26 : Value).ownBlock ∧ k_ ≠ gb286)) (by (with_reducible repeat (first | apply Kd.V_alloc | apply Kd.V_drewN | apply Kd.V_drew)); exact Kd.V_mono HL278_0.out (fun _ hk => ⟨⟨hk.1, ⟨hk.2.2.1, ⟨hk.2.2.2.1, ⟨hk.2.2.2.2.1, ⟨hk.2.2.2.2.2.1, hk.2.2.2.2.2.2⟩⟩⟩⟩⟩, hk.2.1⟩)) hg hat); replace BK286 := Aside0.mk (blk_grown (kk_ BK286) hg (Kd.S_away HO_3.out (fun _ hk => hk.2.2.2.2.2))); replace HB := Aside0.mk hb; have HO289 := Aside0.mk ho; clear HO_3 HO281 HO284; clear ho hb hg hat))
                      go_roundg k3
                      case measure => have := HJ1.out; have := HK2.out; have := HK3.out; omega
                      case rel => exact ⟨(y287), (wrap64 (x27_3 + 1)), qc_, H', ⟨by have := HJ1.out; have := HK2.out; have := HK3.out; omega⟩, ⟨(sw_ (Kd.S_mono HO289.out (fun _ hk => ⟨hk.1, ⟨hk.2.1, hk.2.2.1⟩⟩)))⟩, ⟨by (with_reducible repeat (first | apply Kd.V_alloc | apply Kd.V_drewN | apply Kd.V_drew)); exact Kd.V_mono HO_5.out (fun _ hk => ⟨hk.1.1, ⟨hk.2, ⟨hk.1.2.1, hk.1.2.2.1⟩⟩⟩)⟩, ⟨by (with_reducible repeat (first | apply Kd.N_alloc | apply Kd.N_drewN | apply Kd.N_drew)); exact Kd.N_mono HO_18.out (fun _ hk => ⟨hk.1.1, ⟨hk.2, hk.1.2.1⟩⟩)⟩, ⟨by (with_reducible repeat (first | apply Kd.N_alloc | apply Kd.N_drewN | apply Kd.N_drew)); exact Kd.N_mono HO_25.out (fun _ hk => ⟨hk.1.1, ⟨hk.2, hk.1.2.1⟩⟩)⟩, ⟨hB_⟩⟩
                    · replace c20 := Bool.eq_false_iff.mpr c20
                      subst c20
                      have H1 : (impl_SurfacesWith.l1 k3 a0 x3_3 (rd_L5 t268 x20_2) t268 (t268.length : Int) x20_2 t275 (t275.length : Int) (wrap64 (x27_3 + 1))) = some r := by rw [if_neg (show ¬ (false = true) by decide)] at H; exact H
                      clear H
                      have H := H1
                      clear H1
                      have H' := Aside0.mk H
                      clear H
                      have p278 : 0 ≤ (x27_3 : Int) := of_decide_eq_true qe_
                      have q278 : x27_3 < (t275.length : Int) := of_decide_eq_true qe_
                      obtain ⟨ad278, A278_0, c278_0, e278, hx278_0, hl278_0, hi278_0⟩ := at_L5 (Kd.N_reads' HO_25.out).2.2 x27_3 p278 q278
                      cases e278
                      obtain ⟨ce278, hce278, hMe278, hcc278⟩ := Kd.N_get HO_25.out [] x27_3 p278 (by first | exact q278 | exact of_decide_eq_true qe_ | (have e_ := (Kd.N_reads' HO_25.out).1; omega))
                      obtain ⟨ua278_0, uc278_0, rfl, ul278_0, ge278_0⟩ := Kd.FK_slice_open hMe278
                      have hv278_0 := hcc278 0 _ rfl
                      rw [Nat.add_zero, show ((Kd.slice 3 (Kd.int .i64))).sz = 1 from rfl, Nat.mul_one] at hv278_0
                      replace hv278_0 := Option.some.inj (hv278_0.symm.trans hx278_0)
                      injection hv278_0 with hva_ hvn_ hvc_
                      rw [hva_] at ge278_0
                      rw [hvc_] at ul278_0
                      have HL278_0 := Aside0.mk (show Kd.V (Kd.int .i64) 3 _ w.heap.size _ _ (rd_L5 t275 x27_3) from Kd.V_mk ul278_0 ge278_0)
                      clear hva_ hvn_ hvc_ ge278_0 ul278_0
                      clear hcc278 hce278
                      have HR278_0 := Aside0.mk hi278_0
                      have HC278_0 := Aside0.mk hl278_0
                      clear hi278_0 hl278_0
                      replace p278 := eq_true p278
                      replace q278 := eq_true q278
                      go_wp2_with (first | ((with_reducible refine gate_callee (f := 17) rfl ?_); refine gL_ (some 35) Try.func17 #[.agg #[.slice A274_0 (rd_L5 t268 x20_2).length c274_0, .slice A278_0 (rd_L5 t275 x27_3).length c278_0]] rfl qa_ ?_; (with_reducible refine (impl_CanonOf.calls k3 _ _ (rd_L5 t268 x20_2) _ _ (rd_L5 t275 x27_3) t279 t282 false _ ?side1 ?side2 ?side3 ?side4 A19.out).mono ?_); (case side1 => exact cw_ ((Kd.V_reads' HO_5.out).2.2)); (case side2 => exact (Kd.V_reads' HO_5.out).2.1); (case side3 => repeat (first | exact (by repeat (first | (with_reducible exact HR278_0.out) | (with_reducible refine Kd.C_alloc ?_ _) | (with_reducible refine Kd.C_drewN ?_ _) | (with_reducible refine Kd.C_drew ?_) | exact HR278_0.out)) | (with_reducible refine Kd.C_alloc ?_ _) | (with_reducible refine Kd.C_drewN ?_ _) | (with_reducible refine Kd.C_drew ?_))); (case side4 => exact HC278_0.out); rintro e w30 ⟨v280, v283, rfl, ho0, ho1, hb⟩; refine ⟨_, rfl, ?_⟩; replace HO_3 := Aside0.mk (Kd.S_mono (Kd.S_told (Kd.S_told (Kd.S_old (ss_ HO_3) hb) (Kd.R_base ho0)) (Kd.R_base ho1)) (fun _ h_ => h_.1)); replace HO_5 := Aside0.mk (Kd.V_mono (Kd.V_told (Kd.V_told (Kd.V_old (by (with_reducible repeat (first | apply Kd.V_alloc | apply Kd.V_drewN | apply Kd.V_drew)); exact HO_5.out) hb) (Kd.R_base ho0)) (Kd.R_base ho1)) (fun _ h_ => h_.1)); replace HO_18 := Aside0.mk (Kd.N_mono (Kd.N_told (Kd.N_told (Kd.N_old (by (with_reducible repeat (first | apply Kd.N_alloc | apply Kd.N_drewN | apply Kd.N_drew)); exact HO_18.out) hb) (Kd.R_base ho0)) (Kd.R_base ho1)) (fun _ h_ => h_.1)); replace HO_25 := Aside0.mk (Kd.N_mono (Kd.N_told (Kd.N_told (Kd.N_old (by (with_reducible repeat (first | apply Kd.N_alloc | apply Kd.N_drewN | apply Kd.N_drew)); exact HO_25.out) hb) (Kd.R_base ho0)) (Kd.R_base ho1)) (fun _ h_ => h_.1)); replace HL278_0 := Aside0.mk (Kd.V_mono (Kd.V_told (Kd.V_told (Kd.V_old (by (with_reducible repeat (first | apply Kd.V_alloc | apply Kd.V_drewN | apply Kd.V_drew)); exact HL278_0.out) hb) (Kd.R_base ho0)) (Kd.R_base ho1)) (fun _ h_ => h_.1)); have HO281 := Aside0.mk (Kd.R_lower (Kd.R_newM (M := fun k_ => (w.heap.size ≤ k_)) ho0 (below_size hB_) (fun k_ h_ => h_)) (below_size hB_)); have HO284 := Aside0.mk (Kd.R_lower (Kd.R_newM (M := fun k_ => (w.heap.size ≤ k_)) ho1 (below_size hB_) (fun k_ h_ => h_)) (below_size hB_)); replace HR278_0 := Aside0.mk (Kd.C_below (by repeat (first | (with_reducible exact HR278_0.out) | (with_reducible refine Kd.C_alloc ?_ _) | (with_reducible refine Kd.C_drewN ?_ _) | (with_reducible refine Kd.C_drew ?_) | exact HR278_0.out)) hb); replace HB := b1_ hb; clear hb ho0 ho1) | ((with_reducible refine gate_dst (N := 8) rfl ?_); refine bx_ 8 #[.slice none 0 0, .slice none 0 0] 33 ?_; intro gb286 hg w31 hbox hb; replace HO_3 := Aside0.mk (Kd.S_below (Kd.S_elderB (ss_ HO_3) gb286 (Nat.le_of_eq hg.symm)) hb); replace HO_5 := Aside0.mk (Kd.V_below (Kd.V_elderB (by (with_reducible repeat (first | apply Kd.V_alloc | apply Kd.V_drewN | apply Kd.V_drew)); exact HO_5.out) gb286 (Nat.le_of_eq hg.symm)) hb); replace HO_18 := Aside0.mk (Kd.N_below (Kd.N_elderB (by (with_reducible repeat (first | apply Kd.N_alloc | apply Kd.N_drewN | apply Kd.N_drew)); exact HO_18.out) gb286 (Nat.le_of_eq hg.symm)) hb); replace HO_25 := Aside0.mk (Kd.N_below (Kd.N_elderB (by (with_reducible repeat (first | apply Kd.N_alloc | apply Kd.N_drewN | apply Kd.N_drew)); exact HO_25.out) gb286 (Nat.le_of_eq hg.symm)) hb); replace HL278_0 := Aside0.mk (Kd.V_below (Kd.V_elderB (by (with_reducible repeat (first | apply Kd.V_alloc | apply Kd.V_drewN | apply Kd.V_drew)); exact HL278_0.out) gb286 (Nat.le_of_eq hg.symm)) hb); replace HO281 := rb_ HO281 hb; replace HO284 := rb_ HO284 hb; replace HR278_0 := Aside0.mk (Kd.C_below (by repeat (first | (with_reducible exact HR278_0.out) | (with_reducible refine Kd.C_alloc ?_ _) | (with_reducible refine Kd.C_drewN ?_ _) | (with_reducible refine Kd.C_drew ?_) | exact HR278_0.out)) hb); have BK286 := Aside0.mk hbox; have GW286 := gw_ w hg; have GE286 := GW286; replace HB := b1_ hb; clear hb hbox hg; obtain ⟨Ao32, co32, eo32⟩ := Kd.R_slice HO281.out; subst eo32; obtain ⟨hcz33_0, hcz33_1, hfz33_0, hfz33_1⟩ := c2_ BK286; obtain ⟨Ao34, co34, eo34⟩ := Kd.R_slice HO284.out; subst eo34))
                      go_roundg k3
                      case measure => have := HJ1.out; have := HK2.out; have := HK3.out; omega
                      case rel => exact ⟨(x3_3), (wrap64 (x27_3 + 1)), qc_, H', ⟨by have := HJ1.out; have := HK2.out; have := HK3.out; omega⟩, ⟨(sw_ (Kd.S_mono (Kd.S_far (p := ⟨gb286, 1, none⟩) (Kd.S_far (p := ⟨gb286, 0, none⟩) (Kd.S_mono HO_3.out (fun k_ hk => (⟨hk, hk.2⟩ : _ ∧ k_ ≠ gb286))) (fun _ hk => hk.2) (.slice Ao32 t279.length co32)) (fun _ hk => hk.2) (.slice Ao34 t282.length co34)) (fun _ hk => ⟨hk.1.1.1.1.1, ⟨hk.1.1.1.1.2.1, hk.1.1.1.1.2.2⟩⟩)))⟩, ⟨by (with_reducible repeat (first | apply Kd.V_alloc | apply Kd.V_drewN | apply Kd.V_drew)); exact Kd.V_mono (Kd.V_far (p := ⟨gb286, 1, none⟩) (Kd.V_far (p := ⟨gb286, 0, none⟩) (Kd.V_mono HO_5.out (fun k_ hk => (⟨hk, hk.2⟩ : _ ∧ k_ ≠ gb286))) (fun _ hk => hk.2) (.slice Ao32 t279.length co32)) (fun _ hk => hk.2) (.slice Ao34 t282.length co34)) (fun _ hk => ⟨hk.1.1.1.1.1, ⟨hk.1.1.1.1.2.1, ⟨hk.1.1.1.1.2.2.1, hk.1.1.1.1.2.2.2⟩⟩⟩)⟩, ⟨by (with_reducible repeat (first | apply Kd.N_alloc | apply Kd.N_drewN | apply Kd.N_drew)); exact Kd.N_mono (Kd.N_far (p := ⟨gb286, 1, none⟩) (Kd.N_far (p := ⟨gb286, 0, none⟩) (Kd.N_mono HO_18.out (fun k_ hk => (⟨hk, hk.2⟩ : _ ∧ k_ ≠ gb286))) (fun _ hk => hk.2) (.slice Ao32 t279.length co32)) (fun _ hk => hk.2) (.slice Ao34 t282.length co34)) (fun _ hk => ⟨hk.1.1.1.1.1, ⟨hk.1.1.1.1.2.1, hk.1.1.1.1.2.2⟩⟩)⟩, ⟨by (with_reducible repeat (first | apply Kd.N_alloc | apply Kd.N_drewN | apply Kd.N_drew)); exact Kd.N_mono (Kd.N_far (p := ⟨gb286, 1, none⟩) (Kd.N_far (p := ⟨gb286, 0, none⟩) (Kd.N_mono HO_25.out (fun k_ hk => (⟨hk, hk.2⟩ : _ ∧ k_ ≠ gb286))) (fun _ hk => hk.2) (.slice Ao32 t279.length co32)) (fun _ hk => hk.2) (.slice Ao34 t282.length co34)) (fun _ hk => ⟨hk.1.1.1.1.1, ⟨hk.1.1.1.1.2.1, hk.1.1.1.1.2.2⟩⟩)⟩, ⟨hB_⟩⟩
                  · rw [if_neg c16] at H
                    have c16b0 := decide_eq_false c16
                    clear c16
                    have H' := Aside0.mk H
                    clear H
                    go_wp2
                    go_roundg k3
                    case measure => have := HJ1.out; have := HK2.out; have := HK3.out; omega
                    case rel => exact ⟨(x3_3), (wrap64 (x20_2 + 1)), qc_, H', ⟨by have := HJ1.out; have := HK2.out; have := HK3.out; omega⟩, ⟨(sw_ (Kd.S_mono HO_3.out (fun _ hk => ⟨hk.1, hk.2.1⟩)))⟩, ⟨by (with_reducible repeat (first | apply Kd.N_alloc | apply Kd.N_drewN | apply Kd.N_drew)); exact Kd.N_mono HO_18.out (fun _ hk => ⟨hk.1, hk.2.1⟩)⟩, ⟨hB_⟩⟩
            · rw [if_neg c10] at H
              have c10b0 := decide_eq_false c10
              clear c10
              obtain ⟨t271, A35, H⟩ := bi_ H
              obtain rfl := Option.some.inj H
              obtain ⟨Ao36, co36, eo36⟩ := Kd.S_slice HO_3.out
              subst eo36
              have HZ := Aside0.mk (impl_sortSurfaces.callsS _ _ _ _ w _ HB.out HO_3.out A35.out)
              go_wp2_with (first | ((with_reducible refine gate_callee (f := 51) rfl ?_); refine gL_ (some 46) Try.func51 #[.slice Ao36 x3_2.length co36] rfl qa_ ?_; (with_reducible refine HZ.out.mono ?_); rintro e wZ ⟨vZ, rfl, hoZ, hbZ, hkZ⟩; refine ⟨_, rfl, ?_⟩; have HO273 := Aside0.mk hoZ; replace HB := Aside0.mk hbZ; clear hoZ hbZ hkZ))
              go_ret
              exact ⟨_, qb_, (sw_ (Kd.S_mono HO273.out (fun _ _ => trivial))), hB_⟩
end Go.Proofs.Ytoijcallajegfaa.A
end
section
namespace Go.Proofs.Ytoijcallajegfaa.A
open Go.RowKit Go.Proofs.YtoijcallajegfaaW.PrintWords Go.Proofs.YtoijcallajegfaaW.PrintLast Go.Proofs.YtoijcallajegfaaW.PrintMore
attribute [local go_sem] max2_int min2_int max_two min_two max_three min_three max_four min_four
set_option linter.unusedVariables false
set_option linter.unusedSimpArgs false
mutual
def impl_CyclesOf.l0 : Nat → List Int → List Bool → List (List Int) → Int → Int → Option ((List (List Int)))
  | 0, _, _, _, _, _ => none
  | k + 1, x0, x3, x4, x16, x17 => if x17 < x16 then (if 0 ≤ x17 then (if x17 < (x3.length : Int) then (if rdOf false x3 x17 = true then (impl_CyclesOf.l0 k x0 x3 x4 x16 (wrap64 (x17 + 1))) else (impl_CyclesOf.l1 k x0 x3 x4 (([] : List Int)) x17 x16 x17)) else (none)) else (none)) else (some x4)
def impl_CyclesOf.l1 : Nat → List Int → List Bool → List (List Int) → List Int → Int → Int → Int → Option ((List (List Int)))
  | 0, _, _, _, _, _, _, _ => none
  | k + 1, x0, x3, x4, x6, x7, x16, x17 => if 0 ≤ x7 then (if x7 < (x3.length : Int) then (if rdOf false x3 x7 = true then (if x4.length < 5864062014805 then (impl_CyclesOf.l0 k x0 x3 (x4 ++ [x6]) x16 (wrap64 (x17 + 1))) else (none)) else (if x6.length < 17592186044416 then (if x7 < (x0.length : Int) then (impl_CyclesOf.l1 k x0 (x3.set (x7 : Int).toNat true) x4 (x6 ++ [x7]) (rd x0 x7) x16 x17) else (none)) else (none))) else (none)) else (none)
end
def impl_CyclesOf.f (k : Nat) (l0 : List Int) : Option ((List (List Int))) := (impl_PermOk.f k l0).bind fun t290 => (if t290 = true then (if 0 ≤ (l0.length : Int) then (if ((l0.length : Int) : Int).toNat ≤ 281474976710656 then (impl_CyclesOf.l0 k l0 (List.replicate ((l0.length : Int) : Int).toNat false) (([] : List (List Int))) (l0.length : Int) 0) else (none)) else (none)) else (some ([] : List (List Int))))
theorem impl_CyclesOf.mono_l : ∀ k, (∀ y0 y1 y2 y3 y4, LeO (impl_CyclesOf.l0 k y0 y1 y2 y3 y4) (impl_CyclesOf.l0 (k + 1) y0 y1 y2 y3 y4)) ∧ (∀ y0 y1 y2 y3 y4 y5 y6, LeO (impl_CyclesOf.l1 k y0 y1 y2 y3 y4 y5 y6) (impl_CyclesOf.l1 (k + 1) y0 y1 y2 y3 y4 y5 y6))
  | 0 => ⟨fun _ _ _ _ _ r h => by simp [impl_CyclesOf.l0] at h, fun _ _ _ _ _ _ _ r h => by simp [impl_CyclesOf.l1] at h⟩
  | k + 1 => by
    obtain ⟨ih0, ih1⟩ := impl_CyclesOf.mono_l k
    refine ⟨?_, ?_⟩
    · intro y0 y1 y2 y3 y4
      unfold impl_CyclesOf.l0
      repeat' first|exact ih0 _ _ _ _ _|exact ih1 _ _ _ _ _ _ _|exact impl_PermOk.mono _ _|exact lo_|refine LeO.ite ?_ ?_|refine LeO.bind ?_ (fun _ => ?_)
    · intro y0 y1 y2 y3 y4 y5 y6
      unfold impl_CyclesOf.l1
      repeat' first|exact ih0 _ _ _ _ _|exact ih1 _ _ _ _ _ _ _|exact impl_PermOk.mono _ _|exact lo_|refine LeO.ite ?_ ?_|refine LeO.bind ?_ (fun _ => ?_)
theorem impl_CyclesOf.mono : ∀ a0 k, LeO (impl_CyclesOf.f k a0) (impl_CyclesOf.f (k + 1) a0) := by
  intro a0 k
  obtain ⟨ih0, ih1⟩ := impl_CyclesOf.mono_l k
  unfold impl_CyclesOf.f
  repeat' first|exact ih0 _ _ _ _ _|exact ih1 _ _ _ _ _ _ _|exact impl_PermOk.mono _ _|exact lo_|refine LeO.ite ?_ ?_|refine LeO.bind ?_ (fun _ => ?_)
set_option maxHeartbeats 8000000 in
set_option maxRecDepth 100000 in
theorem impl_CyclesOf.calls (k : Nat) (A0 : Option Addr) (c0 : Nat) (l0 : List Int) (r : List (List Int)) (w : World) (hr0 : Kd.C (Kd.int .i64) w A0 l0.length l0) (hc0 : l0.length ≤ c0) (h : impl_CyclesOf.f k l0 = some r) :
    Calls Try.prog 119 #[.slice A0 l0.length c0] w fun e w' => ∃ v0_ : Value, e = .returned (v0_) ∧ Kd.S (Kd.slice 3 (Kd.int .i64)) 23 w' w.heap.size (fun _ => True) v0_ r ∧ Below w.heap.size w w' := by
  have HR0 := Aside0.mk hr0
  have HC0 := Aside0.mk hc0
  clear hr0 hc0
  have HB := Aside0.mk (Below.refl w.heap.size w)
  have H := h
  unfold impl_CyclesOf.f at H
  clear h
  obtain ⟨t290, A2, H⟩ := bi_ H
  by_cases c3 : t290 = true
  · subst c3
    rw [if_pos rfl] at H
    have c4 := cp_ H
    replace H := ca_ H
    have c4b0 := eq_true c4
    have c4b1 := decide_eq_true c4
    clear c4
    have c5 := cp_ H
    replace H := ca_ H
    have c5b0 := eq_true c5
    have c5b1 := decide_eq_true c5
    clear c5
    obtain ⟨y291, hy291⟩ : ∃ y_ : List Bool, y_ = (List.replicate ((l0.length : Int) : Int).toNat false) := ⟨_, rfl⟩
    replace H : (impl_CyclesOf.l0 k l0 y291 (([] : List (List Int))) (l0.length : Int) 0) = some r := by first | (rw [hy291]; exact H) | exact H
    have Ny291 := Aside0.mk hy291
    clear hy291
    obtain ⟨y294, hy294⟩ : ∃ y_ : List (List Int), y_ = (([] : List (List Int))) := ⟨_, rfl⟩
    replace H : (impl_CyclesOf.l0 k l0 y291 y294 (l0.length : Int) 0) = some r := by first | (rw [hy294]; exact H) | exact H
    have Ny294 := Aside0.mk hy294
    clear hy294
    have H' := Aside0.mk H
    clear H
    go_enter Try.func119, Try.ntmps119
    go_wp2_with (first | ((with_reducible refine gate_callee (f := 109) rfl ?_); refine gL_ (some 9) Try.func109 #[.slice A0 l0.length c0] rfl qa_ ?_; (with_reducible refine (impl_PermOk.calls k _ _ l0 true _ (cc_ HR0) HC0.out A2.out).mono ?_); rintro e w6 ⟨rfl, hb⟩; refine ⟨_, rfl, ?_⟩; replace HB := b1_ hb; clear hb) | ((with_reducible refine gate_dst (N := 13) rfl ?_); refine Kd.R_make Kd.bool _ 4 rfl (N := 13) rfl 111 _ _ rfl (l0.length : Int) rfl rfl Try.underlying111 (.bool false) 1 info4 rfl (by decide) (by omega) false (ok := fun _ => True) (okp := fun _ => True) rfl (fun _ hk => hk) trivial (of_decide_eq_true qe_) (Nat.le_trans (Nat.mul_le_mul_right _ (of_decide_eq_true qe_ : (l0.length : Int).toNat ≤ 281474976710656)) (by omega)) (Below.refl _ _) (Nat.le_refl _) ?_; intro v292 w7 ho8 hb hg_ hnew_; clear hg_ hnew_; (first | rw [← Ny291.out] at ho8 | (simp only [Int.reduceToNat] at ho8; rw [← Ny291.out] at ho8)); have HO293 := rl_ w ho8; replace HB := b1_ hb; clear hb ho8) | ((with_reducible refine gate_dst (N := 14) rfl ?_); refine Kd.S_lit (Kd.slice 3 (Kd.int .i64)) _ 23 ?hg (N := 14) ?hd (xs := ([] : List (List Int))) (inner := []) (ok := fun _ => True) (okp := fun _ => True) ?hr ?hp (fun _ hk => hk) trivial (Below.refl _ _) (Nat.le_refl _) (by simp) ?_; (case hd => rfl); (case hg => rfl); (case hr => first | (go_simp; done) | (go_simp; rfl)); (case hp => exact (Reps.none _ _)); intro v295 w9 ho10 hb hg_ hnew_; clear hg_ hnew_; (first | rw [← Ny294.out] at ho10 | (simp only [Int.reduceToNat] at ho10; rw [← Ny294.out] at ho10)); replace HO293 := rb_ HO293 hb; have HO296 := Aside0.mk (Kd.S_lower ho10 (below_size hB_)); replace HB := b1_ hb; clear hb ho10))
    go_loopg [4, 17] k (fun kq v4 v17 w' => ∃ (x3_1 : List Bool) (x4_1 : List (List Int)) (x17_1 : Int), v17 = .int .i64 x17_1 ∧ Aside0 (impl_CyclesOf.l0 kq l0 x3_1 x4_1 (l0.length : Int) x17_1 = some r) ∧ Aside0 (kq ≤ k) ∧ Aside0 (Kd.R Kd.bool 4 w' w.heap.size (fun _ => True) v292 x3_1) ∧ Aside0 (Kd.S (Kd.slice 3 (Kd.int .i64)) 23 w' w.heap.size (fun _ => True) v4 x4_1) ∧ Aside0 (Below w.heap.size w w'))
    case atStart => exact ⟨(y291), (y294), (0), qc_, H', ⟨Nat.le_refl _⟩, ⟨(rr_ HO293)⟩, ⟨(ss_ HO296)⟩, ⟨hB_⟩⟩
    case round =>
      clear H'
      obtain ⟨x3_1, x4_1, x17_1, rfl, HA, HK1, HO_3, HO_4, HB⟩ := hrel
      cases gk with
      | zero => exact absurd HA.out (by simp [impl_CyclesOf.l0])
      | succ k1 =>
        have H := HA.out
        clear HA
        simp only [impl_CyclesOf.l0] at H
        by_cases c11 : x17_1 < (l0.length : Int)
        · rw [if_pos c11] at H
          have c11b0 := decide_eq_true c11
          clear c11
          have c12 := cp_ H
          replace H := ca_ H
          have c12b0 := decide_eq_true c12
          clear c12
          have c13 := cp_ H
          replace H := ca_ H
          have c13b0 := decide_eq_true c13
          clear c13
          obtain ⟨bq14, hbq14⟩ : ∃ b_ : Bool, b_ = (rdOf false x3_1 x17_1) := ⟨_, rfl⟩
          replace H : (if bq14 = true then (impl_CyclesOf.l0 k1 l0 x3_1 x4_1 (l0.length : Int) (wrap64 (x17_1 + 1))) else (impl_CyclesOf.l1 k1 l0 x3_1 x4_1 (([] : List Int)) x17_1 (l0.length : Int) x17_1)) = some r := by rw [← hbq14] at H; exact H
          have Nbq14 := Aside0.mk hbq14
          clear hbq14
          by_cases c15 : bq14 = true
          · subst c15
            rw [if_pos rfl] at H
            have H' := Aside0.mk H
            clear H
            obtain ⟨Ao16, co16, eo16⟩ := Kd.R_slice HO_3.out
            subst eo16
            have p297 : 0 ≤ (x17_1 : Int) := of_decide_eq_true qe_
            have q297 : x17_1 < (x3_1.length : Int) := of_decide_eq_true qe_
            obtain ⟨ad297, e297, hx297_0⟩ := Kd.at_bool (Kd.R_reads' HO_3.out).2.2 x17_1 p297 q297
            (try rw [← Nbq14.out] at hx297_0)
            cases e297
            replace p297 := eq_true p297
            replace q297 := eq_true q297
            go_wp2
            go_roundg k1
            case measure => have := HK1.out; omega
            case rel => exact ⟨(x3_1), (x4_1), (wrap64 (x17_1 + 1)), qc_, H', ⟨by have := HK1.out; omega⟩, ⟨(rr_ HO_3)⟩, ⟨(ss_ HO_4)⟩, ⟨hB_⟩⟩
          · replace c15 := Bool.eq_false_iff.mpr c15
            subst c15
            have H1 : (impl_CyclesOf.l1 k1 l0 x3_1 x4_1 (([] : List Int)) x17_1 (l0.length : Int) x17_1) = some r := by rw [if_neg (show ¬ (false = true) by decide)] at H; exact H
            clear H
            have H := H1
            clear H1
            obtain ⟨y298, hy298⟩ : ∃ y_ : List Int, y_ = (([] : List Int)) := ⟨_, rfl⟩
            replace H : (impl_CyclesOf.l1 k1 l0 x3_1 x4_1 y298 x17_1 (l0.length : Int) x17_1) = some r := by first | (rw [hy298]; exact H) | exact H
            have Ny298 := Aside0.mk hy298
            clear hy298
            have H' := Aside0.mk H
            clear H
            obtain ⟨Ao17, co17, eo17⟩ := Kd.R_slice HO_3.out
            subst eo17
            have p297 : 0 ≤ (x17_1 : Int) := of_decide_eq_true qe_
            have q297 : x17_1 < (x3_1.length : Int) := of_decide_eq_true qe_
            obtain ⟨ad297, e297, hx297_0⟩ := Kd.at_bool (Kd.R_reads' HO_3.out).2.2 x17_1 p297 q297
            (try rw [← Nbq14.out] at hx297_0)
            cases e297
            obtain ⟨g297, rfl⟩ : ∃ g_, ad297 = (⟨g_, 0, none⟩ : Addr) := Kd.R_head HO_3.out
            (try simp only [add_plain] at hx297_0)
            replace p297 := eq_true p297
            replace q297 := eq_true q297
            go_wp2_with (first | ((with_reducible refine gate_dst (N := 24) rfl ?_); refine Kd.R_lit (Kd.int .i64) _ 3 ?hg (N := 24) ?hd (xs := ([] : List Int)) (inner := []) (ok := fun _ => True) (okp := fun _ => True) ?hr ?hp (fun _ hk => hk) trivial (Below.refl _ _) (Nat.le_refl _) (by simp) ?_; (case hd => rfl); (case hg => rfl); (case hr => first | (go_simp; done) | (go_simp; rfl)); (case hp => exact (Reps.none _ _)); intro v299 w18 ho19 hb hg_ hnew_; clear hg_ hnew_; (first | rw [← Ny298.out] at ho19 | (simp only [Int.reduceToNat] at ho19; rw [← Ny298.out] at ho19)); replace HO_3 := rb_ HO_3 hb; replace HO_4 := Aside0.mk (Kd.S_elder' (ss_ HO_4) (Kd.R_base ho19) hb); have HO300 := rl_ w ho19; replace HB := b1_ hb; clear hb ho19))
            go_loopg [6, 7] k1 (fun kq v6 v7 w' => ∃ (x3_2 : List Bool) (x6_2 : List Int) (x7_2 : Int), v7 = .int .i64 x7_2 ∧ Aside0 (impl_CyclesOf.l1 kq l0 x3_2 x4_1 x6_2 x7_2 (l0.length : Int) x17_1 = some r) ∧ Aside0 (kq ≤ k1) ∧ Aside0 (Kd.R Kd.bool 4 w' w.heap.size (fun _ => True) (.slice (some (⟨g297, 0, none⟩ : Addr)) x3_1.length co17) x3_2) ∧ Aside0 (Kd.S (Kd.slice 3 (Kd.int .i64)) 23 w' w.heap.size (fun k_ => some k_ ≠ (v6 : Value).ownBlock) u4 x4_1) ∧ Aside0 (Kd.R (Kd.int .i64) 3 w' w.heap.size (fun _ => True) v6 x6_2) ∧ Aside0 (Below w.heap.size w w'))
            case atStart => exact ⟨(x3_1), (y298), (x17_1), qc_, H', ⟨Nat.le_refl _⟩, ⟨(rr_ HO_3)⟩, ⟨(sw_ (Kd.S_mono HO_4.out (fun _ hk => hk.2)))⟩, ⟨(rr_ HO300)⟩, ⟨hB_⟩⟩
            case round =>
              clear H'
              obtain ⟨x3_2, x6_2, x7_2, rfl, HA, HK2, HO_3, HO_4, HO_6, HB⟩ := hrel
              have hl3_2 := (Kd.R_reads' HO_3.out).1
              rw [hl3_2] at HO_3
              (try simp only [hl3_2])
              (try simp only [hl3_2] at HO_4)
              (try simp only [hl3_2] at HO_6)
              cases gk with
              | zero => exact absurd HA.out (by simp [impl_CyclesOf.l1])
              | succ k2 =>
                have H := HA.out
                clear HA
                simp only [impl_CyclesOf.l1] at H
                have c20 := cp_ H
                replace H := ca_ H
                have c20b0 := decide_eq_true c20
                clear c20
                have c21 := cp_ H
                replace H := ca_ H
                have c21b0 := decide_eq_true c21
                clear c21
                obtain ⟨bq22, hbq22⟩ : ∃ b_ : Bool, b_ = (rdOf false x3_2 x7_2) := ⟨_, rfl⟩
                replace H : (if bq22 = true then (if x4_1.length < 5864062014805 then (impl_CyclesOf.l0 k2 l0 x3_2 (x4_1 ++ [x6_2]) (l0.length : Int) (wrap64 (x17_1 + 1))) else (none)) else (if x6_2.length < 17592186044416 then (if x7_2 < (l0.length : Int) then (impl_CyclesOf.l1 k2 l0 (x3_2.set (x7_2 : Int).toNat true) x4_1 (x6_2 ++ [x7_2]) (rd l0 x7_2) (l0.length : Int) x17_1) else (none)) else (none))) = some r := by rw [← hbq22] at H; exact H
                have Nbq22 := Aside0.mk hbq22
                clear hbq22
                by_cases c23 : bq22 = true
                · subst c23
                  rw [if_pos rfl] at H
                  have c24 := cp_ H
                  replace H := ca_ H
                  have LMc24 := Aside0.mk c24
                  clear c24
                  obtain ⟨y302, hy302⟩ : ∃ y_ : List (List Int), y_ = (x4_1 ++ [x6_2]) := ⟨_, rfl⟩
                  replace H : (impl_CyclesOf.l0 k2 l0 x3_2 y302 (l0.length : Int) (wrap64 (x17_1 + 1))) = some r := by first | (rw [hy302]; exact H) | exact H
                  have Ny302 := Aside0.mk hy302
                  clear hy302
                  have H' := Aside0.mk H
                  clear H
                  have p301 : 0 ≤ (x7_2 : Int) := of_decide_eq_true qe_
                  have q301 : x7_2 < (x3_2.length : Int) := of_decide_eq_true qe_
                  obtain ⟨ad301, e301, hx301_0⟩ := Kd.at_bool (Kd.R_reads' HO_3.out).2.2 x7_2 p301 q301
                  (try rw [← Nbq14.out] at hx301_0)
                  (try rw [← Nbq22.out] at hx301_0)
                  obtain rfl : (⟨g297, 0, none⟩ : Addr) = ad301 := (by injection e301)
                  (try simp only [add_plain] at hx301_0)
                  replace p301 := eq_true p301
                  replace q301 := eq_true q301
                  obtain ⟨Ao26, co26, eo26⟩ := Kd.R_slice HO_6.out
                  subst eo26
                  go_wp2_with (first | ((with_reducible refine gate_builtin (b := .append) (xs := #[.tmp 42, .tmp 44]) rfl ?_); at_builtin; refine Kd.S_append (Kd.slice 3 (Kd.int .i64)) (w0 := w) w.heap.size rfl (.tmp 42) (.tmp 44) 28 23 (.slice none 0 0) 24 rfl Try.underlying28 info23 rfl (by decide) (by omega) u4 x4_1 x6_2 [.slice Ao26 x6_2.length co26] (fun _ => True) (fun k_ => some k_ = (.slice Ao26 x6_2.length co26 : Value).ownBlock) rfl rfl ?aP (fun k_ hk_ => ((Kd.R_mono (ok' := fun k_ => ((fun _ => True)) k_ ∧ some k_ ≠ (u4 : Value).ownBlock) (Kd.R_apart' (HO_6.out) (Kd.S_typed HO_4.out) (by decide)) (fun k_ hk => ⟨trivial, hk.2⟩))).1 k_ hk_.symm) ?aF ?aO ?aB ?aS ?aL ?_; (case aP => exact Kd.M_row (Kd.R_mono (Kd.R_tight rfl (Kd.R_mono (ok' := fun k_ => ((fun _ => True)) k_ ∧ some k_ ≠ (u4 : Value).ownBlock) (Kd.R_apart' (HO_6.out) (Kd.S_typed HO_4.out) (by decide)) (fun k_ hk => ⟨trivial, hk.2⟩))) (fun _ h_ => h_))); (case aB => exact hB_); (case aF => exact (fun _ _ => trivial)); (case aO => exact (sw_ (Kd.S_mono HO_4.out (fun k_ hk => ⟨trivial, fun e_ => hk e_⟩)))); (case aS => exact (below_size hB_)); (case aL => have := LMc24.out; omega); intro v303 w25 ho hb hg hat; rw [← Ny302.out] at ho; replace HO_3 := Aside0.mk (Kd.R_over' (rr_ HO_3) (Kd.S_typed (ss_ HO_4)) (by decide) hg); replace HB := Aside0.mk hb; have HO304 := Aside0.mk ho; clear HO_4 HO_6; clear ho hb hg hat))
                  (try simp only [← hl3_2])
                  go_roundg k2
                  case measure => have := HK1.out; have := HK2.out; omega
                  case rel => exact ⟨(x3_2), (y302), (wrap64 (x17_1 + 1)), qc_, H', ⟨by have := HK1.out; have := HK2.out; omega⟩, ⟨by (try simp only [hl3_2]); (with_reducible repeat (first | apply Kd.R_alloc | apply Kd.R_drewN | apply Kd.R_drew)); exact HO_3.out⟩, ⟨by (try simp only [hl3_2]); (with_reducible repeat (first | apply Kd.S_alloc | apply Kd.S_drewN | apply Kd.S_drew)); exact HO304.out⟩, ⟨hB_⟩⟩
                · replace c23 := Bool.eq_false_iff.mpr c23
                  subst c23
                  have H1 : (if x6_2.length < 17592186044416 then (if x7_2 < (l0.length : Int) then (impl_CyclesOf.l1 k2 l0 (x3_2.set (x7_2 : Int).toNat true) x4_1 (x6_2 ++ [x7_2]) (rd l0 x7_2) (l0.length : Int) x17_1) else (none)) else (none)) = some r := by rw [if_neg (show ¬ (false = true) by decide)] at H; exact H
                  clear H
                  have H := H1
                  clear H1
                  obtain ⟨y305, hy305⟩ : ∃ y_ : List Bool, y_ = (x3_2.set (x7_2 : Int).toNat true) := ⟨_, rfl⟩
                  replace H : (if x6_2.length < 17592186044416 then (if x7_2 < (l0.length : Int) then (impl_CyclesOf.l1 k2 l0 y305 x4_1 (x6_2 ++ [x7_2]) (rd l0 x7_2) (l0.length : Int) x17_1) else (none)) else (none)) = some r := by first | (rw [hy305]; exact H) | exact H
                  have Ny305 := Aside0.mk hy305
                  clear hy305
                  have c28 := cp_ H
                  replace H := ca_ H
                  have LMc28 := Aside0.mk c28
                  clear c28
                  obtain ⟨y306, hy306⟩ : ∃ y_ : List Int, y_ = (x6_2 ++ [x7_2]) := ⟨_, rfl⟩
                  replace H : (if x7_2 < (l0.length : Int) then (impl_CyclesOf.l1 k2 l0 y305 x4_1 y306 (rd l0 x7_2) (l0.length : Int) x17_1) else (none)) = some r := by first | (rw [hy306]; exact H) | exact H
                  have Ny306 := Aside0.mk hy306
                  clear hy306
                  have c29 := cp_ H
                  replace H := ca_ H
                  have c29b0 := decide_eq_true c29
                  clear c29
                  have H' := Aside0.mk H
                  clear H
                  have p301 : 0 ≤ (x7_2 : Int) := of_decide_eq_true qe_
                  have q301 : x7_2 < (x3_2.length : Int) := of_decide_eq_true qe_
                  obtain ⟨ad301, e301, hx301_0⟩ := Kd.at_bool (Kd.R_reads' HO_3.out).2.2 x7_2 p301 q301
                  (try rw [← Nbq14.out] at hx301_0)
                  (try rw [← Nbq22.out] at hx301_0)
                  obtain rfl : (⟨g297, 0, none⟩ : Addr) = ad301 := (by injection e301)
                  (try simp only [add_plain] at hx301_0)
                  replace p301 := eq_true p301
                  replace q301 := eq_true q301
                  have p27 : 0 ≤ (x7_2 : Int) := of_decide_eq_true qe_
                  have q27 : (x7_2 : Int) < ((x3_2.length : Int) : Int) := of_decide_eq_true qe_
                  obtain ⟨go27, co27, eo27, gb27, gl27, cl27, HG27⟩ := Kd.R_form HO_3.out (by omega)
                  (first | cases eo27 | (injection eo27 with ea_ en_ ec_; (first | subst ea_ | (injection ea_ with ea_; subst ea_)); subst ec_; clear en_))
                  have GB27 := Aside0.mk gb27
                  have GG27 := Aside0.mk HG27
                  clear gb27 gl27 HG27
                  (first | simp only [add_plain] at hx297_0 | skip)
                  (first | simp only [add_plain] at hx301_0 | skip)
                  obtain ⟨hx27_0, hf27_0⟩ := Kd.R_celln false HO_3.out (x7_2 : Int) p27 q27
                  replace p27 := eq_true p27
                  replace q27 := eq_true q27
                  have HP30 := Kd.R_putg HO_3.out (x7_2 : Int) true
                  go_wp2_with (first | ((with_reducible refine gate_store (t := 4) (p := 37) rfl ?_); refine store_event (t := 4) (p := 37) (v := ?vo_w31) (w1 := (wr.setCell ⟨g297, (x7_2 : Int).toNat, none⟩ (.bool true))) ?hg ?ho ?hn ?hr ?_; (case ho => rfl); (case hg => rfl); (case hn => rfl); (case hr => first | (go_simp; done) | (go_simp; rfl)); intro w31 hw; have hg : wr.grownBy w31 (some g297) := (by rw [hw]; exact HP30.2); have hp_ : Kd.R Kd.bool 4 w31 w.heap.size (fun _ => True) (.slice (some ⟨g297, 0, none⟩) x3_2.length co17) y305 := (by rw [hw, Ny305.out]; exact HP30.1); clear HP30; replace HO_4 := Aside0.mk (Kd.S_over' (v := (.slice (some ⟨g297, 0, none⟩) x3_2.length co17)) (ss_ HO_4) (Kd.R_typed HO_3.out) (by decide) hg); replace HO_6 := Aside0.mk (Kd.R_over' (v := (.slice (some ⟨g297, 0, none⟩) x3_2.length co17)) (rr_ HO_6) (Kd.R_typed HO_3.out) (by decide) hg); replace HO_3 := Aside0.mk (hp_); replace HB := Aside0.mk ((by rw [hw]; exact below_set (HB.out) GB27.out : Below w.heap.size w w31)); clear hg hw hp_) | ((with_reducible refine gate_builtin (b := .append) (xs := #[.tmp 38, .tmp 40]) rfl ?_); at_builtin; refine Kd.R_append (Kd.int .i64) (w0 := w) w.heap.size rfl (.tmp 38) (.tmp 40) 23 3 (.int .i64 0) 8 rfl Try.underlying23 info3 rfl (by decide) (by omega) u6 x6_2 x7_2 [.int .i64 x7_2] (fun _ => True) (fun _ => False) rfl rfl ?aP (fun _ hk => hk.elim) ?aF ?aO ?aB ?aS ?aL ?_; (case aP => exact rfl); (case aB => exact hB_); (case aF => exact (fun _ _ => trivial)); (case aO => exact (rr_ HO_6)); (case aS => exact (below_size hB_)); (case aL => have := LMc28.out; omega); intro v307 w32 ho hb hg hat; rw [← Ny306.out] at ho; replace HO_3 := Aside0.mk (Kd.R_over' (rr_ HO_3) (Kd.R_typed (rr_ HO_6)) (by decide) hg); replace HO_4 := Aside0.mk (Kd.S_after (ok := (fun _ => True)) (sw_ (Kd.S_mono HO_4.out (fun _ hk => ⟨trivial, hk⟩))) hg hat); replace HB := Aside0.mk hb; have HO308 := Aside0.mk ho; clear HO_6; clear ho hb hg hat; have p309 : 0 ≤ (x7_2 : Int) := of_decide_eq_true qe_; have q309 : x7_2 < (l0.length : Int) := of_decide_eq_true qe_; obtain ⟨ad309, e309, hx309_0⟩ := Kd.at_int HR0.out x7_2 p309 q309; cases e309; replace hx309_0 := (HB.out.cell (World.block_lt_of_cell? w _ hx309_0)).trans hx309_0; replace p309 := eq_true p309; replace q309 := eq_true q309))
                  (try simp only [← hl3_2])
                  go_roundg k2
                  case measure => have := HK1.out; have := HK2.out; omega
                  case rel => exact ⟨(y305), (y306), (rd l0 x7_2), qc_, H', ⟨by have := HK1.out; have := HK2.out; omega⟩, ⟨by (try simp only [hl3_2]); (with_reducible repeat (first | apply Kd.R_alloc | apply Kd.R_drewN | apply Kd.R_drew)); exact HO_3.out⟩, ⟨by (try simp only [hl3_2]); (with_reducible repeat (first | apply Kd.S_alloc | apply Kd.S_drewN | apply Kd.S_drew)); exact Kd.S_mono HO_4.out (fun _ hk => hk.2)⟩, ⟨by (try simp only [hl3_2]); (with_reducible repeat (first | apply Kd.R_alloc | apply Kd.R_drewN | apply Kd.R_drew)); exact HO308.out⟩, ⟨hB_⟩⟩
        · rw [if_neg c11] at H
          have c11b0 := decide_eq_false c11
          clear c11
          obtain rfl := Option.some.inj H
          go_wp2
          go_ret
          exact ⟨_, qb_, (ss_ HO_4), hB_⟩
  · replace c3 := Bool.eq_false_iff.mpr c3
    subst c3
    have H1 : (some ([] : List (List Int))) = some r := by rw [if_neg (show ¬ (false = true) by decide)] at H; exact H
    clear H
    have H := H1
    clear H1
    obtain rfl := Option.some.inj H
    go_enter Try.func119, Try.ntmps119
    go_wp2_with (first | ((with_reducible refine gate_callee (f := 109) rfl ?_); refine gL_ (some 9) Try.func109 #[.slice A0 l0.length c0] rfl qa_ ?_; (with_reducible refine (impl_PermOk.calls k _ _ l0 false _ (cc_ HR0) HC0.out A2.out).mono ?_); rintro e w33 ⟨rfl, hb⟩; refine ⟨_, rfl, ?_⟩; replace HB := b1_ hb; clear hb))
    go_ret
    exact ⟨_, qb_, by first | exact Kd.S_nil _ _ _ _ _ | exact Kd.N_nil _ _ _ _ _ | exact Kd.V_nil _ _ _ _ _ | exact Kd.Q_nil _ _ _ _ _ | exact Kd.R_nil _ _ _ _ _, hB_⟩
end Go.Proofs.Ytoijcallajegfaa.A
end
section
namespace Go.Proofs.Ytoijcallajegfaa.A
open Go.RowKit Go.Proofs.YtoijcallajegfaaW.PrintWords Go.Proofs.YtoijcallajegfaaW.PrintLast Go.Proofs.YtoijcallajegfaaW.PrintMore
attribute [local go_sem] max2_int min2_int max_two min_two max_three min_three max_four min_four
set_option linter.unusedVariables false
set_option linter.unusedSimpArgs false
mutual
def impl_ThenPerm.j0 : Nat → List Int → List Int → Bool → Option (List Int)
  | 0, _, _, _ => none
  | k + 1, x0, x1, x22 => if x22 = true then (some ([] : List Int)) else (if 0 ≤ (x0.length : Int) then (if ((x0.length : Int) : Int).toNat ≤ 35184372088832 then (impl_ThenPerm.l0 k x1 (List.replicate ((x0.length : Int) : Int).toNat 0) x0 (x0.length : Int) 0) else (none)) else (none))
def impl_ThenPerm.l0 : Nat → List Int → List Int → List Int → Int → Int → Option (List Int)
  | 0, _, _, _, _, _ => none
  | k + 1, x1, x5, x26, x27, x28 => if x28 < x27 then (if 0 ≤ x28 then (if x28 < (x26.length : Int) then (if 0 ≤ (rd x26 x28) then (if (rd x26 x28) < (x1.length : Int) then (if x28 < (x5.length : Int) then (impl_ThenPerm.l0 k x1 (x5.set (x28 : Int).toNat (rd x1 (rd x26 x28))) x26 x27 (wrap64 (x28 + 1))) else (none)) else (none)) else (none)) else (none)) else (none)) else (some x5)
end
def impl_ThenPerm.f (k : Nat) (l0 : List Int) (l1 : List Int) : Option (List Int) := (impl_PermOk.f k l0).bind fun t316 => (if t316 = true then ((impl_PermOk.f k l1).bind fun t317 => (if t317 = true then (impl_ThenPerm.j0 k l0 l1 ((l0.length : Int) != (l1.length : Int))) else (impl_ThenPerm.j0 k l0 l1 true))) else (impl_ThenPerm.j0 k l0 l1 true))
theorem impl_ThenPerm.mono_l : ∀ k, (∀ y0 y1 y2, LeO (impl_ThenPerm.j0 k y0 y1 y2) (impl_ThenPerm.j0 (k + 1) y0 y1 y2)) ∧ (∀ y0 y1 y2 y3 y4, LeO (impl_ThenPerm.l0 k y0 y1 y2 y3 y4) (impl_ThenPerm.l0 (k + 1) y0 y1 y2 y3 y4))
  | 0 => ⟨fun _ _ _ r h => by simp [impl_ThenPerm.j0] at h, fun _ _ _ _ _ r h => by simp [impl_ThenPerm.l0] at h⟩
  | k + 1 => by
    obtain ⟨ih0, ih1⟩ := impl_ThenPerm.mono_l k
    refine ⟨?_, ?_⟩
    · intro y0 y1 y2
      unfold impl_ThenPerm.j0
      repeat' first|exact ih0 _ _ _|exact ih1 _ _ _ _ _|exact impl_PermOk.mono _ _|exact lo_|refine LeO.ite ?_ ?_|refine LeO.bind ?_ (fun _ => ?_)
    · intro y0 y1 y2 y3 y4
      unfold impl_ThenPerm.l0
      repeat' first|exact ih0 _ _ _|exact ih1 _ _ _ _ _|exact impl_PermOk.mono _ _|exact lo_|refine LeO.ite ?_ ?_|refine LeO.bind ?_ (fun _ => ?_)
theorem impl_ThenPerm.mono : ∀ a0 a1 k, LeO (impl_ThenPerm.f k a0 a1) (impl_ThenPerm.f (k + 1) a0 a1) := by
  intro a0 a1 k
  obtain ⟨ih0, ih1⟩ := impl_ThenPerm.mono_l k
  unfold impl_ThenPerm.f
  repeat' first|exact ih0 _ _ _|exact ih1 _ _ _ _ _|exact impl_PermOk.mono _ _|exact lo_|refine LeO.ite ?_ ?_|refine LeO.bind ?_ (fun _ => ?_)
set_option maxHeartbeats 8000000 in
set_option maxRecDepth 100000 in
theorem impl_ThenPerm.calls (k : Nat) (A0 : Option Addr) (c0 : Nat) (l0 : List Int) (A1 : Option Addr) (c1 : Nat) (l1 : List Int) (r : List Int) (w : World) (hr0 : Kd.C (Kd.int .i64) w A0 l0.length l0) (hc0 : l0.length ≤ c0) (hr1 : Kd.C (Kd.int .i64) w A1 l1.length l1) (hc1 : l1.length ≤ c1) (h : impl_ThenPerm.f k l0 l1 = some r) :
    Calls Try.prog 152 #[.slice A0 l0.length c0, .slice A1 l1.length c1] w fun e w' => ∃ v0_ : Value, e = .returned (v0_) ∧ Kd.R (Kd.int .i64) 3 w' w.heap.size (fun _ => True) v0_ r ∧ Below w.heap.size w w' := by
  have HR0 := Aside0.mk hr0
  have HC0 := Aside0.mk hc0
  clear hr0 hc0
  have HR1 := Aside0.mk hr1
  have HC1 := Aside0.mk hc1
  clear hr1 hc1
  have HB := Aside0.mk (Below.refl w.heap.size w)
  have H := h
  unfold impl_ThenPerm.f at H
  clear h
  have HC3 := Aside0.mk H
  clear H
  go_enter Try.func152, Try.ntmps152
  go_upto_region 1 with (fail)
  go_cut [22] (fun v22 wc => ∃ (kq : Nat) (x22_2 : Bool), v22 = .bool x22_2 ∧ Aside0 (impl_ThenPerm.j0 kq l0 l1 x22_2 = some r) ∧ Aside0 (kq ≤ k) ∧ Aside0 (Below w.heap.size w wc))
  case first =>
    have H := HC3.out
    clear HC3
    obtain ⟨t316, A4, H⟩ := bi_ H
    by_cases c5 : t316 = true
    · subst c5
      rw [if_pos rfl] at H
      obtain ⟨t317, A6, H⟩ := bi_ H
      by_cases c7 : t317 = true
      · subst c7
        rw [if_pos rfl] at H
        have H' := Aside0.mk H
        clear H
        go_wp2_with (first | ((with_reducible refine gate_callee (f := 109) rfl ?_); refine gL_ (some 9) Try.func109 #[.slice A0 l0.length c0] rfl qa_ ?_; (with_reducible refine (impl_PermOk.calls k _ _ l0 true _ (cb_ HR0) HC0.out A4.out).mono ?_); rintro e w8 ⟨rfl, hb⟩; refine ⟨_, rfl, ?_⟩; replace HB := b1_ hb; clear hb) | (go_at_call 109; (with_reducible refine (impl_PermOk.calls k _ _ l1 true _ (cb_ HR1) HC1.out A6.out).mono ?_); rintro e w9 ⟨rfl, hb⟩; replace HB := b1_ hb; clear hb))
        go_meet
        case rel => exact ⟨_, (((l0.length : Int) != (l1.length : Int))), qc_, H', ⟨qd_⟩, ⟨hB_⟩⟩
      · replace c7 := Bool.eq_false_iff.mpr c7
        subst c7
        have H1 : (impl_ThenPerm.j0 k l0 l1 true) = some r := by rw [if_neg (show ¬ (false = true) by decide)] at H; exact H
        clear H
        have H := H1
        clear H1
        have H' := Aside0.mk H
        clear H
        go_wp2_with (first | ((with_reducible refine gate_callee (f := 109) rfl ?_); refine gL_ (some 9) Try.func109 #[.slice A0 l0.length c0] rfl qa_ ?_; (with_reducible refine (impl_PermOk.calls k _ _ l0 true _ (cb_ HR0) HC0.out A4.out).mono ?_); rintro e w10 ⟨rfl, hb⟩; refine ⟨_, rfl, ?_⟩; replace HB := b1_ hb; clear hb) | (go_at_call 109; (with_reducible refine (impl_PermOk.calls k _ _ l1 false _ (cb_ HR1) HC1.out A6.out).mono ?_); rintro e w11 ⟨rfl, hb⟩; replace HB := b1_ hb; clear hb))
        go_meet
        case rel => exact ⟨_, (true), qc_, H', ⟨qd_⟩, ⟨hB_⟩⟩
    · replace c5 := Bool.eq_false_iff.mpr c5
      subst c5
      have H1 : (impl_ThenPerm.j0 k l0 l1 true) = some r := by rw [if_neg (show ¬ (false = true) by decide)] at H; exact H
      clear H
      have H := H1
      clear H1
      have H' := Aside0.mk H
      clear H
      go_wp2_with (first | ((with_reducible refine gate_callee (f := 109) rfl ?_); refine gL_ (some 9) Try.func109 #[.slice A0 l0.length c0] rfl qa_ ?_; (with_reducible refine (impl_PermOk.calls k _ _ l0 false _ (cb_ HR0) HC0.out A4.out).mono ?_); rintro e w12 ⟨rfl, hb⟩; refine ⟨_, rfl, ?_⟩; replace HB := b1_ hb; clear hb))
      go_meet
      case rel => exact ⟨_, (true), qc_, H', ⟨qd_⟩, ⟨hB_⟩⟩
  case rest =>
    clear HC3
    obtain ⟨kq, x22_2, rfl, HA, HJ2, HB⟩ := hcut
    cases kq with
    | zero => exact absurd HA.out (by simp [impl_ThenPerm.j0])
    | succ kj2 =>
      have H := HA.out
      clear HA
      simp only [impl_ThenPerm.j0] at H
      by_cases c13 : x22_2 = true
      · subst c13
        rw [if_pos rfl] at H
        obtain rfl := Option.some.inj H
        go_wp2
        go_ret
        exact ⟨_, qb_, by first | exact Kd.R_nil _ _ _ _ _ | exact Kd.N_nil _ _ _ _ _ | exact Kd.V_nil _ _ _ _ _ | exact Kd.Q_nil _ _ _ _ _ | exact Kd.S_nil _ _ _ _ _, hB_⟩
      · replace c13 := Bool.eq_false_iff.mpr c13
        subst c13
        have H1 : (if 0 ≤ (l0.length : Int) then (if ((l0.length : Int) : Int).toNat ≤ 35184372088832 then (impl_ThenPerm.l0 kj2 l1 (List.replicate ((l0.length : Int) : Int).toNat 0) l0 (l0.length : Int) 0) else (none)) else (none)) = some r := by rw [if_neg (show ¬ (false = true) by decide)] at H; exact H
        clear H
        have H := H1
        clear H1
        have c14 := cp_ H
        replace H := ca_ H
        have c14b0 := eq_true c14
        have c14b1 := decide_eq_true c14
        clear c14
        have c15 := cp_ H
        replace H := ca_ H
        have c15b0 := eq_true c15
        have c15b1 := decide_eq_true c15
        clear c15
        obtain ⟨y318, hy318⟩ : ∃ y_ : List Int, y_ = (List.replicate ((l0.length : Int) : Int).toNat 0) := ⟨_, rfl⟩
        replace H : (impl_ThenPerm.l0 kj2 l1 y318 l0 (l0.length : Int) 0) = some r := by first | (rw [hy318]; exact H) | exact H
        have Ny318 := Aside0.mk hy318
        clear hy318
        have H' := Aside0.mk H
        clear H
        go_wp2_with (first | ((with_reducible refine gate_dst (N := 25) rfl ?_); (try (refine gate_guard (by rfl) ?_; dsimp only)); refine Kd.R_make (Kd.int .i64) _ 3 rfl (N := 25) rfl 23 _ _ rfl (l0.length : Int) rfl rfl Try.underlying23 (.int .i64 0) 8 info3 rfl (by decide) (by omega) 0 (ok := fun _ => True) (okp := fun _ => True) rfl (fun _ hk => hk) trivial (of_decide_eq_true qe_) (Nat.le_trans (Nat.mul_le_mul_right _ (of_decide_eq_true qe_ : (l0.length : Int).toNat ≤ 35184372088832)) (by omega)) (Below.refl _ _) (Nat.le_refl _) ?_; intro v319 w16 ho17 hb hg_ hnew_; clear hg_ hnew_; (first | rw [← Ny318.out] at ho17 | (simp only [Int.reduceToNat] at ho17; rw [← Ny318.out] at ho17)); have HO320 := rl_ w ho17; replace HB := b1_ hb; clear hb ho17))
        go_loopg [28] kj2 (fun kq v28 w' => ∃ (x5_2 : List Int) (x28_2 : Int), v28 = .int .i64 x28_2 ∧ Aside0 (impl_ThenPerm.l0 kq l1 x5_2 l0 (l0.length : Int) x28_2 = some r) ∧ Aside0 (kq ≤ kj2) ∧ Aside0 (Kd.R (Kd.int .i64) 3 w' w.heap.size (fun _ => True) v319 x5_2) ∧ Aside0 (Below w.heap.size w w'))
        case atStart => exact ⟨(y318), (0), qc_, H', ⟨Nat.le_refl _⟩, ⟨(rr_ HO320)⟩, ⟨hB_⟩⟩
        case round =>
          clear H'
          obtain ⟨x5_2, x28_2, rfl, HA, HK2, HO_5, HB⟩ := hrel
          cases gk with
          | zero => exact absurd HA.out (by simp [impl_ThenPerm.l0])
          | succ k2 =>
            have H := HA.out
            clear HA
            simp only [impl_ThenPerm.l0] at H
            by_cases c18 : x28_2 < (l0.length : Int)
            · rw [if_pos c18] at H
              have c18b0 := decide_eq_true c18
              clear c18
              have c19 := cp_ H
              replace H := ca_ H
              have c19b0 := decide_eq_true c19
              clear c19
              have c20 := cp_ H
              replace H := ca_ H
              have c20b0 := decide_eq_true c20
              clear c20
              have c21 := cp_ H
              replace H := ca_ H
              have c21b0 := decide_eq_true c21
              clear c21
              have c22 := cp_ H
              replace H := ca_ H
              have c22b0 := decide_eq_true c22
              clear c22
              have c23 := cp_ H
              replace H := ca_ H
              have c23b0 := decide_eq_true c23
              clear c23
              obtain ⟨y323, hy323⟩ : ∃ y_ : List Int, y_ = (x5_2.set (x28_2 : Int).toNat (rd l1 (rd l0 x28_2))) := ⟨_, rfl⟩
              replace H : (impl_ThenPerm.l0 k2 l1 y323 l0 (l0.length : Int) (wrap64 (x28_2 + 1))) = some r := by first | (rw [hy323]; exact H) | exact H
              have Ny323 := Aside0.mk hy323
              clear hy323
              have H' := Aside0.mk H
              clear H
              have p321 : 0 ≤ (x28_2 : Int) := of_decide_eq_true qe_
              have q321 : x28_2 < (l0.length : Int) := of_decide_eq_true qe_
              obtain ⟨ad321, e321, hx321_0⟩ := Kd.at_int HR0.out x28_2 p321 q321
              cases e321
              replace hx321_0 := (HB.out.cell (World.block_lt_of_cell? w _ hx321_0)).trans hx321_0
              replace p321 := eq_true p321
              replace q321 := eq_true q321
              have p322 : 0 ≤ ((rd l0 x28_2) : Int) := of_decide_eq_true qe_
              have q322 : (rd l0 x28_2) < (l1.length : Int) := of_decide_eq_true qe_
              obtain ⟨ad322, e322, hx322_0⟩ := Kd.at_int HR1.out (rd l0 x28_2) p322 q322
              cases e322
              replace hx322_0 := (HB.out.cell (World.block_lt_of_cell? w _ hx322_0)).trans hx322_0
              replace p322 := eq_true p322
              replace q322 := eq_true q322
              have p24 : 0 ≤ (x28_2 : Int) := of_decide_eq_true qe_
              have q24 : (x28_2 : Int) < ((x5_2.length : Int) : Int) := of_decide_eq_true qe_
              obtain ⟨go24, co24, eo24, gb24, gl24, cl24, HG24⟩ := Kd.R_form HO_5.out (by omega)
              (first | cases eo24 | (injection eo24 with ea_ en_ ec_; (first | subst ea_ | (injection ea_ with ea_; subst ea_)); subst ec_; clear en_))
              have GB24 := Aside0.mk gb24
              have GG24 := Aside0.mk HG24
              clear gb24 gl24 HG24
              obtain ⟨hx24_0, hf24_0⟩ := Kd.R_celln 0 HO_5.out (x28_2 : Int) p24 q24
              replace p24 := eq_true p24
              replace q24 := eq_true q24
              have HP25 := Kd.R_putg HO_5.out (x28_2 : Int) (rd l1 (rd l0 x28_2))
              go_wp2_with (first | ((with_reducible refine gate_store (t := 3) (p := 39) rfl ?_); refine store_event (t := 3) (p := 39) (v := ?vo_w26) (w1 := (wr.setCell ⟨go24, (x28_2 : Int).toNat, none⟩ (.int .i64 (rd l1 (rd l0 x28_2))))) ?hg ?ho ?hn ?hr ?_; (case ho => rfl); (case hg => rfl); (case hn => rfl); (case hr => first | (go_simp; done) | (go_simp; rfl)); intro w26 hw; have hg : wr.grownBy w26 (some go24) := (by rw [hw]; exact HP25.2); have hp_ : Kd.R (Kd.int .i64) 3 w26 w.heap.size (fun _ => True) (.slice (some ⟨go24, 0, none⟩) x5_2.length co24) y323 := (by rw [hw, Ny323.out]; exact HP25.1); clear HP25; replace HO_5 := Aside0.mk (hp_); replace HB := Aside0.mk ((by rw [hw]; exact below_set (HB.out) GB24.out : Below w.heap.size w w26)); clear hg hw hp_))
              go_roundg k2
              case measure => have := HJ2.out; have := HK2.out; omega
              case rel => exact ⟨(y323), (wrap64 (x28_2 + 1)), qc_, H', ⟨by have := HJ2.out; have := HK2.out; omega⟩, ⟨(rr_ HO_5)⟩, ⟨hB_⟩⟩
            · rw [if_neg c18] at H
              have c18b0 := decide_eq_false c18
              clear c18
              obtain rfl := Option.some.inj H
              go_wp2
              go_ret
              exact ⟨_, qb_, (rr_ HO_5), hB_⟩
end Go.Proofs.Ytoijcallajegfaa.A
end
section
namespace Go.Proofs.Ytoijcallajegfaa.A
open Go.RowKit Go.Proofs.YtoijcallajegfaaW.PrintWords Go.Proofs.YtoijcallajegfaaW.PrintLast Go.Proofs.YtoijcallajegfaaW.PrintMore
attribute [local go_sem] max2_int min2_int max_two min_two max_three min_three max_four min_four
set_option linter.unusedVariables false
set_option linter.unusedSimpArgs false
def impl_AroundOf.f (k : Nat) (l0_0 : List Int) (l0_1 : List Int) : Option (List Int) := (impl_SurfaceOk.f k l0_0 l0_1).bind fun t325 => (if t325 = true then ((impl_ThenPerm.f k l0_0 l0_1).bind fun t326 => ((impl_InversePerm.f k l0_0).bind fun t329 => ((impl_InversePerm.f k l0_1).bind fun t332 => ((impl_ThenPerm.f k t329 t332).bind fun t335 => ((impl_ThenPerm.f k t326 t335).bind fun t338 => (some t338)))))) else (some ([] : List Int)))
theorem impl_AroundOf.mono : ∀ a0 a1 k, LeO (impl_AroundOf.f k a0 a1) (impl_AroundOf.f (k + 1) a0 a1) := by
  intro a0 a1 k
  unfold impl_AroundOf.f
  repeat' first|exact impl_InversePerm.mono _ _|exact impl_SurfaceOk.mono _ _ _|exact impl_ThenPerm.mono _ _ _|exact lo_|refine LeO.ite ?_ ?_|refine LeO.bind ?_ (fun _ => ?_)
def impl_AroundOf.T3 : Bool × List (List Nat × List Nat) := (true, [([], []), ([0], [0]), ([], []), ([2], [2]), ([1, 3], [1, 3]), ([], []), ([5], [5]), ([6, 4], [6]), ([], []), ([8], [8]), ([9, 7], [9]), ([7, 10, 10], [7, 10]), ([4, 11, 11], [4, 11]), ([12, 12, 0, 1, 2, 3, 4, 5, 6, 7, 8, 9, 10, 11, 12], [12])])
def impl_AroundOf.B3 : List Nat := [0, 1, 0, 4, 15, 0, 32, 127, 0, 256, 1023, 2047, 4095, 8191]
theorem impl_AroundOf.tab3 : rtab .any (opsOf Try.f120 3) = impl_AroundOf.T3 := by kernel_rfl
theorem impl_AroundOf.bits3 : waitsOk impl_AroundOf.T3.2 impl_AroundOf.B3 = true := by kernel_rfl
set_option maxHeartbeats 8000000 in
set_option maxRecDepth 100000 in
theorem impl_AroundOf.calls (k : Nat) (A0_0 : Option Addr) (c0_0 : Nat) (l0_0 : List Int) (A0_1 : Option Addr) (c0_1 : Nat) (l0_1 : List Int) (r : List Int) (w : World) (hr0_0 : Kd.C (Kd.int .i64) w A0_0 l0_0.length l0_0) (hc0_0 : l0_0.length ≤ c0_0) (hr0_1 : Kd.C (Kd.int .i64) w A0_1 l0_1.length l0_1) (hc0_1 : l0_1.length ≤ c0_1) (h : impl_AroundOf.f k l0_0 l0_1 = some r) :
    Calls Try.prog 120 #[.agg #[.slice A0_0 l0_0.length c0_0, .slice A0_1 l0_1.length c0_1]] w fun e w' => ∃ v0_ : Value, e = .returned (v0_) ∧ Kd.R (Kd.int .i64) 3 w' w.heap.size (fun _ => True) v0_ r ∧ Below w.heap.size w w' := by
  have hu33 := Try.underlying33
  have HR0_0 := Aside0.mk hr0_0
  have HC0_0 := Aside0.mk hc0_0
  clear hr0_0 hc0_0
  have HR0_1 := Aside0.mk hr0_1
  have HC0_1 := Aside0.mk hc0_1
  clear hr0_1 hc0_1
  have HB := Aside0.mk (Below.refl w.heap.size w)
  have H := h
  unfold impl_AroundOf.f at H
  clear h
  obtain ⟨t325, A2, H⟩ := bi_ H
  by_cases c3 : t325 = true
  · subst c3
    rw [if_pos rfl] at H
    obtain ⟨t326, A4, H⟩ := bi_ H
    obtain ⟨t329, A5, H⟩ := bi_ H
    obtain ⟨t332, A6, H⟩ := bi_ H
    obtain ⟨t335, A7, H⟩ := bi_ H
    obtain ⟨t338, A8, H⟩ := bi_ H
    obtain rfl := Option.some.inj H
    go_enter Try.func120, Try.ntmps120
    try go_wp2_with (first | ((with_reducible refine gate_dst (N := 1) rfl ?_); refine bx_ 1 #[.slice A0_0 l0_0.length c0_0, .slice A0_1 l0_1.length c0_1] 33 ?_; intro gb324 hg w9 hbox hb; have BK324 := Aside0.mk hbox; have GW324 := gw_ w hg; have GE324 := GW324; replace HB := b1_ hb; clear hb hbox hg; obtain ⟨hcz10_0, hcz10_1, hfz10_0, hfz10_1⟩ := c2_ BK324) | ((with_reducible refine gate_callee (f := 19) rfl ?_); refine gL_ (some 4) Try.func19 #[.agg #[.slice A0_0 l0_0.length c0_0, .slice A0_1 l0_1.length c0_1]] rfl qa_ ?_; (with_reducible refine (impl_SurfaceOk.calls k _ _ l0_0 _ _ l0_1 true _ (cb_ HR0_0) HC0_0.out (cb_ HR0_1) HC0_1.out A2.out).mono ?_); rintro e w11 ⟨rfl, hb⟩; refine ⟨_, rfl, ?_⟩; replace BK324 := bb_ BK324 hb; replace HB := b1_ hb; clear hb))
    replace BK324 := Aside0.mk (blk_drew BK324.out)
    replace HB := Aside0.mk (below_drew1 HB.out)
    refine start_ (n := 14) (S := fun w' => w'.cell? ⟨gb324, 0, none⟩ = some (.slice A0_0 l0_0.length c0_0) ∧ w'.cell? ⟨gb324, 1, none⟩ = some (.slice A0_1 l0_1.length c0_1)) (ds := []) (bl_ 14 0) (by kernel_rfl) rfl (by kernel_rfl) ⟨cz0_ BK324, cz1_ BK324⟩ (fun hHeld => ?_); refine with_tabW impl_AroundOf.tab3 impl_AroundOf.bits3 (fun HT_ HW_ => ?_)
    generalize w11.drew = w12 at BK324 HB hHeld ⊢
    refine pu_ 0 (some 6) (bl_ 14 1) HT_ ?_
    refine pu_ 2 (some 8) (bl_ 14 5) HT_ ?_
    refine pu_ 5 (some 11) (bl_ 14 37) HT_ ?_
    refine pu_ 8 (some 14) (bl_ 14 293) HT_ ?_
    refine ta_ 1 (some 7) (bl_ 14 295) HT_ HW_ hHeld ?_
    refine ta_ 3 (some 9) (bl_ 14 303) HT_ HW_ hHeld ?_
    refine ta_ 6 (some 12) (bl_ 14 367) HT_ HW_ hHeld ?_
    refine ta_ 9 (some 15) (bl_ 14 879) HT_ HW_ hHeld ?_
    refine on_ 4 (some 10) (bl_ 14 895) HT_ (fun K hK => ?_)
    refine gO_ Try.func152 #[.slice A0_0 l0_0.length c0_0, .slice A0_1 l0_1.length c0_1] (by rfl) rfl rfl qa_ ?_
    with_reducible refine (impl_ThenPerm.calls k _ _ l0_0 _ _ l0_1 t326 _ (cb_ HR0_0) HC0_0.out (cb_ HR0_1) HC0_1.out A4.out).mono ?_
    rintro e w13 ⟨v327, rfl, ho0, hb⟩
    refine ⟨_, rfl, ?_⟩
    have HO328 := rl_ w ho0
    replace BK324 := bb_ BK324 hb
    replace HB := b1_ hb
    clear hb ho0
    refine hK.out _ _ ⟨cz0_ BK324, cz1_ BK324⟩ (fun hHeld => ?_)
    clear hK K
    refine no_ (some 10) ?_
    refine on_ 7 (some 13) (bl_ 14 1023) HT_ (fun K hK => ?_)
    refine gO_ Try.func122 #[.slice A0_0 l0_0.length c0_0] (by rfl) rfl rfl qa_ ?_
    with_reducible refine (impl_InversePerm.calls k _ _ l0_0 t329 _ (cb_ HR0_0) HC0_0.out A5.out).mono ?_
    rintro e w14 ⟨v330, rfl, ho0, hb⟩
    refine ⟨_, rfl, ?_⟩
    have HO331 := Aside0.mk (Kd.R_lower (Kd.R_new' ho0 (Kd.R_lt (rr_ HO328))) (below_size hB_))
    replace HO328 := Aside0.mk (Kd.R_elder' (rr_ HO328) (Kd.R_base ho0) hb)
    replace BK324 := bb_ BK324 hb
    replace HB := b1_ hb
    clear hb ho0
    refine hK.out _ _ ⟨cz0_ BK324, cz1_ BK324⟩ (fun hHeld => ?_)
    clear hK K
    refine no_ (some 13) ?_
    refine on_ 10 (some 16) (bl_ 14 2047) HT_ (fun K hK => ?_)
    refine gO_ Try.func122 #[.slice A0_1 l0_1.length c0_1] (by rfl) rfl rfl qa_ ?_
    with_reducible refine (impl_InversePerm.calls k _ _ l0_1 t332 _ (cb_ HR0_1) HC0_1.out A6.out).mono ?_
    rintro e w15 ⟨v333, rfl, ho0, hb⟩
    refine ⟨_, rfl, ?_⟩
    have HO334 := Aside0.mk (Kd.R_lower (Kd.R_new' (Kd.R_new' ho0 (Kd.R_lt (rr_ HO328))) (Kd.R_lt (rr_ HO331))) (below_size hB_))
    replace HO328 := Aside0.mk (Kd.R_elder' (rr_ HO328) (Kd.R_base ho0) hb)
    replace HO331 := Aside0.mk (Kd.R_elder' (rr_ HO331) (Kd.R_base ho0) hb)
    replace BK324 := bb_ BK324 hb
    replace HB := b1_ hb
    clear hb ho0
    obtain ⟨Ao16, co16, eo16⟩ := Kd.R_slice HO331.out
    (first | subst eo16 | (injection eo16 with f1_ f2_ f3_; have f4_ := f1_.symm; have f5_ := f3_.symm; clear f1_ f2_ f3_; subst f4_; subst f5_))
    obtain ⟨Ao17, co17, eo17⟩ := Kd.R_slice HO334.out
    (first | subst eo17 | (injection eo17 with f1_ f2_ f3_; have f4_ := f1_.symm; have f5_ := f3_.symm; clear f1_ f2_ f3_; subst f4_; subst f5_))
    refine hK.out _ _ ⟨cz0_ BK324, cz1_ BK324⟩ (fun hHeld => ?_)
    clear hK K
    refine no_ (some 16) ?_
    refine on_ 11 (some 17) (bl_ 14 4095) HT_ (fun K hK => ?_)
    refine gO_ Try.func152 #[.slice Ao16 t329.length co16, .slice Ao17 t332.length co17] (by rfl) rfl rfl qa_ ?_
    with_reducible refine (impl_ThenPerm.calls k _ _ t329 _ _ t332 t335 _ (cr_ HO331) ((Kd.R_reads' HO331.out).2.1) (cr_ HO334) ((Kd.R_reads' HO334.out).2.1) A7.out).mono ?_
    rintro e w18 ⟨v336, rfl, ho0, hb⟩
    refine ⟨_, rfl, ?_⟩
    have HO337 := Aside0.mk (Kd.R_lower (Kd.R_new' (Kd.R_new' (Kd.R_new' ho0 (Kd.R_lt (rr_ HO328))) (Kd.R_lt (rr_ HO331))) (Kd.R_lt (rr_ HO334))) (below_size hB_))
    replace HO328 := Aside0.mk (Kd.R_elder' (rr_ HO328) (Kd.R_base ho0) hb)
    replace HO331 := Aside0.mk (Kd.R_elder' (rr_ HO331) (Kd.R_base ho0) hb)
    replace HO334 := Aside0.mk (Kd.R_elder' (rr_ HO334) (Kd.R_base ho0) hb)
    replace BK324 := bb_ BK324 hb
    replace HB := b1_ hb
    clear hb ho0
    obtain ⟨Ao19, co19, eo19⟩ := Kd.R_slice HO328.out
    (first | subst eo19 | (injection eo19 with f1_ f2_ f3_; have f4_ := f1_.symm; have f5_ := f3_.symm; clear f1_ f2_ f3_; subst f4_; subst f5_))
    obtain ⟨Ao20, co20, eo20⟩ := Kd.R_slice HO337.out
    (first | subst eo20 | (injection eo20 with f1_ f2_ f3_; have f4_ := f1_.symm; have f5_ := f3_.symm; clear f1_ f2_ f3_; subst f4_; subst f5_))
    refine hK.out _ _ ⟨cz0_ BK324, cz1_ BK324⟩ (fun hHeld => ?_)
    clear hK K
    refine no_ (some 17) ?_
    refine on_ 12 (some 18) (bl_ 14 8191) HT_ (fun K hK => ?_)
    refine gO_ Try.func152 #[.slice Ao19 t326.length co19, .slice Ao20 t335.length co20] (by rfl) rfl rfl qa_ ?_
    with_reducible refine (impl_ThenPerm.calls k _ _ t326 _ _ t335 t338 _ (cr_ HO328) ((Kd.R_reads' HO328.out).2.1) (cr_ HO337) ((Kd.R_reads' HO337.out).2.1) A8.out).mono ?_
    rintro e w21 ⟨v339, rfl, ho0, hb⟩
    refine ⟨_, rfl, ?_⟩
    have HO340 := Aside0.mk (Kd.R_lower (Kd.R_new' (Kd.R_new' (Kd.R_new' (Kd.R_new' ho0 (Kd.R_lt (rr_ HO328))) (Kd.R_lt (rr_ HO331))) (Kd.R_lt (rr_ HO334))) (Kd.R_lt (rr_ HO337))) (below_size hB_))
    replace HO328 := Aside0.mk (Kd.R_elder' (rr_ HO328) (Kd.R_base ho0) hb)
    replace HO331 := Aside0.mk (Kd.R_elder' (rr_ HO331) (Kd.R_base ho0) hb)
    replace HO334 := Aside0.mk (Kd.R_elder' (rr_ HO334) (Kd.R_base ho0) hb)
    replace HO337 := Aside0.mk (Kd.R_elder' (rr_ HO337) (Kd.R_base ho0) hb)
    replace BK324 := bb_ BK324 hb
    replace HB := b1_ hb
    clear hb ho0
    refine hK.out _ _ ⟨cz0_ BK324, cz1_ BK324⟩ (fun hHeld => ?_)
    clear hK K
    refine no_ (some 18) ?_
    refine pu_ 13 (some 2) (bl_ 14 16383) HT_ ?_
    refine done_ (done_of HT_.out (by kernel_rfl)) ?_
    try go_wp2
    go_ret
    exact ⟨_, qb_, (rw_ (Kd.R_mono HO340.out (fun _ hk => trivial))), hB_⟩
  · replace c3 := Bool.eq_false_iff.mpr c3
    subst c3
    have H1 : (some ([] : List Int)) = some r := by rw [if_neg (show ¬ (false = true) by decide)] at H; exact H
    clear H
    have H := H1
    clear H1
    obtain rfl := Option.some.inj H
    go_enter Try.func120, Try.ntmps120
    go_wp2_with (first | ((with_reducible refine gate_dst (N := 1) rfl ?_); refine bx_ 1 #[.slice A0_0 l0_0.length c0_0, .slice A0_1 l0_1.length c0_1] 33 ?_; intro gb324 hg w22 hbox hb; have BK324 := Aside0.mk hbox; have GW324 := gw_ w hg; have GE324 := GW324; replace HB := b1_ hb; clear hb hbox hg; obtain ⟨hcz23_0, hcz23_1, hfz23_0, hfz23_1⟩ := c2_ BK324) | ((with_reducible refine gate_callee (f := 19) rfl ?_); refine gL_ (some 4) Try.func19 #[.agg #[.slice A0_0 l0_0.length c0_0, .slice A0_1 l0_1.length c0_1]] rfl qa_ ?_; (with_reducible refine (impl_SurfaceOk.calls k _ _ l0_0 _ _ l0_1 false _ (cb_ HR0_0) HC0_0.out (cb_ HR0_1) HC0_1.out A2.out).mono ?_); rintro e w24 ⟨rfl, hb⟩; refine ⟨_, rfl, ?_⟩; replace BK324 := bb_ BK324 hb; replace HB := b1_ hb; clear hb))
    go_ret
    exact ⟨_, qb_, by first | exact Kd.R_nil _ _ _ _ _ | exact Kd.N_nil _ _ _ _ _ | exact Kd.V_nil _ _ _ _ _ | exact Kd.Q_nil _ _ _ _ _ | exact Kd.S_nil _ _ _ _ _, hB_⟩
end Go.Proofs.Ytoijcallajegfaa.A
end
section
namespace Go.Proofs.Ytoijcallajegfaa.A
open Go.RowKit Go.Proofs.YtoijcallajegfaaW.PrintWords Go.Proofs.YtoijcallajegfaaW.PrintLast Go.Proofs.YtoijcallajegfaaW.PrintMore
attribute [local go_sem] max2_int min2_int max_two min_two max_three min_three max_four min_four
set_option linter.unusedVariables false
set_option linter.unusedSimpArgs false
def impl_CornersOf.f (k : Nat) (l0_0 : List Int) (l0_1 : List Int) : Option ((List (List Int))) := (impl_SurfaceOk.f k l0_0 l0_1).bind fun t342 => (if t342 = true then ((impl_AroundOf.f k l0_0 l0_1).bind fun t343 => ((impl_CyclesOf.f k t343).bind fun t346 => (some t346))) else (some ([] : List (List Int))))
theorem impl_CornersOf.mono : ∀ a0 a1 k, LeO (impl_CornersOf.f k a0 a1) (impl_CornersOf.f (k + 1) a0 a1) := by
  intro a0 a1 k
  unfold impl_CornersOf.f
  repeat' first|exact impl_AroundOf.mono _ _ _|exact impl_CyclesOf.mono _ _|exact impl_SurfaceOk.mono _ _ _|exact lo_|refine LeO.ite ?_ ?_|refine LeO.bind ?_ (fun _ => ?_)
set_option maxHeartbeats 8000000 in
set_option maxRecDepth 100000 in
theorem impl_CornersOf.calls (k : Nat) (A0_0 : Option Addr) (c0_0 : Nat) (l0_0 : List Int) (A0_1 : Option Addr) (c0_1 : Nat) (l0_1 : List Int) (r : List (List Int)) (w : World) (hr0_0 : Kd.C (Kd.int .i64) w A0_0 l0_0.length l0_0) (hc0_0 : l0_0.length ≤ c0_0) (hr0_1 : Kd.C (Kd.int .i64) w A0_1 l0_1.length l0_1) (hc0_1 : l0_1.length ≤ c0_1) (h : impl_CornersOf.f k l0_0 l0_1 = some r) :
    Calls Try.prog 72 #[.agg #[.slice A0_0 l0_0.length c0_0, .slice A0_1 l0_1.length c0_1]] w fun e w' => ∃ v0_ : Value, e = .returned (v0_) ∧ Kd.S (Kd.slice 3 (Kd.int .i64)) 23 w' w.heap.size (fun _ => True) v0_ r ∧ Below w.heap.size w w' := by
  have hu33 := Try.underlying33
  have HR0_0 := Aside0.mk hr0_0
  have HC0_0 := Aside0.mk hc0_0
  clear hr0_0 hc0_0
  have HR0_1 := Aside0.mk hr0_1
  have HC0_1 := Aside0.mk hc0_1
  clear hr0_1 hc0_1
  have HB := Aside0.mk (Below.refl w.heap.size w)
  have H := h
  unfold impl_CornersOf.f at H
  clear h
  obtain ⟨t342, A2, H⟩ := bi_ H
  by_cases c3 : t342 = true
  · subst c3
    rw [if_pos rfl] at H
    obtain ⟨t343, A4, H⟩ := bi_ H
    obtain ⟨t346, A5, H⟩ := bi_ H
    obtain rfl := Option.some.inj H
    go_enter Try.func72, Try.ntmps72
    go_wp2_with (first | ((with_reducible refine gate_dst (N := 1) rfl ?_); refine bx_ 1 #[.slice A0_0 l0_0.length c0_0, .slice A0_1 l0_1.length c0_1] 33 ?_; intro gb341 hg w6 hbox hb; have BK341 := Aside0.mk hbox; have GW341 := gw_ w hg; have GE341 := GW341; replace HB := b1_ hb; clear hb hbox hg; obtain ⟨hcz7_0, hcz7_1, hfz7_0, hfz7_1⟩ := c2_ BK341) | ((with_reducible refine gate_callee (f := 19) rfl ?_); refine gL_ (some 4) Try.func19 #[.agg #[.slice A0_0 l0_0.length c0_0, .slice A0_1 l0_1.length c0_1]] rfl qa_ ?_; (with_reducible refine (impl_SurfaceOk.calls k _ _ l0_0 _ _ l0_1 true _ (cb_ HR0_0) HC0_0.out (cb_ HR0_1) HC0_1.out A2.out).mono ?_); rintro e w8 ⟨rfl, hb⟩; refine ⟨_, rfl, ?_⟩; replace BK341 := bb_ BK341 hb; replace HB := b1_ hb; clear hb; obtain ⟨hcz9_0, hcz9_1, hfz9_0, hfz9_1⟩ := c2_ BK341) | ((with_reducible refine gate_callee (f := 120) rfl ?_); refine gL_ (some 7) Try.func120 #[.agg #[.slice A0_0 l0_0.length c0_0, .slice A0_1 l0_1.length c0_1]] rfl qa_ ?_; (with_reducible refine (impl_AroundOf.calls k _ _ l0_0 _ _ l0_1 t343 _ (cb_ HR0_0) HC0_0.out (cb_ HR0_1) HC0_1.out A4.out).mono ?_); rintro e w10 ⟨v344, rfl, ho0, hb⟩; refine ⟨_, rfl, ?_⟩; have HO345 := rl_ w ho0; replace BK341 := bb_ BK341 hb; replace HB := b1_ hb; clear hb ho0; obtain ⟨Ao11, co11, eo11⟩ := Kd.R_slice HO345.out; subst eo11) | ((with_reducible refine gate_callee (f := 119) rfl ?_); refine gL_ (some 8) Try.func119 #[.slice Ao11 t343.length co11] rfl qa_ ?_; (with_reducible refine (impl_CyclesOf.calls k _ _ t343 t346 _ (cr_ HO345) ((Kd.R_reads' HO345.out).2.1) A5.out).mono ?_); rintro e w12 ⟨v347, rfl, ho0, hb⟩; refine ⟨_, rfl, ?_⟩; have HO348 := Aside0.mk (Kd.S_lower (Kd.S_new' ho0 (Kd.R_lt (rr_ HO345))) (below_size hB_)); replace HO345 := rb_ HO345 hb; replace BK341 := bb_ BK341 hb; replace HB := b1_ hb; clear hb ho0))
    go_ret
    exact ⟨_, qb_, (sw_ (Kd.S_mono HO348.out (fun _ hk => trivial))), hB_⟩
  · replace c3 := Bool.eq_false_iff.mpr c3
    subst c3
    have H1 : (some ([] : List (List Int))) = some r := by rw [if_neg (show ¬ (false = true) by decide)] at H; exact H
    clear H
    have H := H1
    clear H1
    obtain rfl := Option.some.inj H
    go_enter Try.func72, Try.ntmps72
    go_wp2_with (first | ((with_reducible refine gate_dst (N := 1) rfl ?_); refine bx_ 1 #[.slice A0_0 l0_0.length c0_0, .slice A0_1 l0_1.length c0_1] 33 ?_; intro gb341 hg w13 hbox hb; have BK341 := Aside0.mk hbox; have GW341 := gw_ w hg; have GE341 := GW341; replace HB := b1_ hb; clear hb hbox hg; obtain ⟨hcz14_0, hcz14_1, hfz14_0, hfz14_1⟩ := c2_ BK341) | ((with_reducible refine gate_callee (f := 19) rfl ?_); refine gL_ (some 4) Try.func19 #[.agg #[.slice A0_0 l0_0.length c0_0, .slice A0_1 l0_1.length c0_1]] rfl qa_ ?_; (with_reducible refine (impl_SurfaceOk.calls k _ _ l0_0 _ _ l0_1 false _ (cb_ HR0_0) HC0_0.out (cb_ HR0_1) HC0_1.out A2.out).mono ?_); rintro e w15 ⟨rfl, hb⟩; refine ⟨_, rfl, ?_⟩; replace BK341 := bb_ BK341 hb; replace HB := b1_ hb; clear hb))
    go_ret
    exact ⟨_, qb_, by first | exact Kd.S_nil _ _ _ _ _ | exact Kd.N_nil _ _ _ _ _ | exact Kd.V_nil _ _ _ _ _ | exact Kd.Q_nil _ _ _ _ _ | exact Kd.R_nil _ _ _ _ _, hB_⟩
end Go.Proofs.Ytoijcallajegfaa.A
end
section
namespace Go.Proofs.Ytoijcallajegfaa.A
open Go.RowKit Go.Proofs.YtoijcallajegfaaW.PrintWords Go.Proofs.YtoijcallajegfaaW.PrintLast Go.Proofs.YtoijcallajegfaaW.PrintMore
attribute [local go_sem] max2_int min2_int max_two min_two max_three min_three max_four min_four
set_option linter.unusedVariables false
set_option linter.unusedSimpArgs false
def impl_GenusOf.f (k : Nat) (l0_0 : List Int) (l0_1 : List Int) : Option (Int) := (impl_SurfaceOk.f k l0_0 l0_1).bind fun t350 => (if t350 = true then ((impl_CountSquares.f k l0_0 l0_1).bind fun t351 => ((impl_CornersOf.f k l0_0 l0_1).bind fun t352 => (some (wrap64 (1 + (wrap64 (Int.tdiv (wrap64 (t351 - (t352.length : Int))) 2))))))) else (some (-1)))
theorem impl_GenusOf.mono : ∀ a0 a1 k, LeO (impl_GenusOf.f k a0 a1) (impl_GenusOf.f (k + 1) a0 a1) := by
  intro a0 a1 k
  unfold impl_GenusOf.f
  repeat' first|exact impl_CornersOf.mono _ _ _|exact impl_CountSquares.mono _ _ _|exact impl_SurfaceOk.mono _ _ _|exact lo_|refine LeO.ite ?_ ?_|refine LeO.bind ?_ (fun _ => ?_)
def impl_GenusOf.T3 : Bool × List (List Nat × List Nat) := (true, [([], []), ([0], [0]), ([], []), ([2, 1], [2]), ([3], [3]), ([1, 4], [1, 4]), ([5], [5]), ([6], [6]), ([7, 3, 0, 1, 2, 3, 4, 5, 6, 7], [7])])
def impl_GenusOf.B3 : List Nat := [0, 1, 0, 7, 15, 31, 63, 127, 255]
theorem impl_GenusOf.tab3 : rtab .any (opsOf Try.f27 3) = impl_GenusOf.T3 := by kernel_rfl
theorem impl_GenusOf.bits3 : waitsOk impl_GenusOf.T3.2 impl_GenusOf.B3 = true := by kernel_rfl
set_option maxHeartbeats 8000000 in
set_option maxRecDepth 100000 in
theorem impl_GenusOf.calls (k : Nat) (A0_0 : Option Addr) (c0_0 : Nat) (l0_0 : List Int) (A0_1 : Option Addr) (c0_1 : Nat) (l0_1 : List Int) (r : Int) (w : World) (hr0_0 : Kd.C (Kd.int .i64) w A0_0 l0_0.length l0_0) (hc0_0 : l0_0.length ≤ c0_0) (hr0_1 : Kd.C (Kd.int .i64) w A0_1 l0_1.length l0_1) (hc0_1 : l0_1.length ≤ c0_1) (h : impl_GenusOf.f k l0_0 l0_1 = some r) :
    Calls Try.prog 27 #[.agg #[.slice A0_0 l0_0.length c0_0, .slice A0_1 l0_1.length c0_1]] w fun e w' => e = .returned (.int .i64 r) ∧ Below w.heap.size w w' := by
  have hu33 := Try.underlying33
  have HR0_0 := Aside0.mk hr0_0
  have HC0_0 := Aside0.mk hc0_0
  clear hr0_0 hc0_0
  have HR0_1 := Aside0.mk hr0_1
  have HC0_1 := Aside0.mk hc0_1
  clear hr0_1 hc0_1
  have HB := Aside0.mk (Below.refl w.heap.size w)
  have H := h
  unfold impl_GenusOf.f at H
  clear h
  obtain ⟨t350, A2, H⟩ := bi_ H
  by_cases c3 : t350 = true
  · subst c3
    rw [if_pos rfl] at H
    obtain ⟨t351, A4, H⟩ := bi_ H
    obtain ⟨t352, A5, H⟩ := bi_ H
    obtain rfl := Option.some.inj H
    go_enter Try.func27, Try.ntmps27
    try go_wp2_with (first | ((with_reducible refine gate_dst (N := 1) rfl ?_); refine bx_ 1 #[.slice A0_0 l0_0.length c0_0, .slice A0_1 l0_1.length c0_1] 33 ?_; intro gb349 hg w6 hbox hb; have BK349 := Aside0.mk hbox; have GW349 := gw_ w hg; have GE349 := GW349; replace HB := b1_ hb; clear hb hbox hg; obtain ⟨hcz7_0, hcz7_1, hfz7_0, hfz7_1⟩ := c2_ BK349) | ((with_reducible refine gate_callee (f := 19) rfl ?_); refine gL_ (some 4) Try.func19 #[.agg #[.slice A0_0 l0_0.length c0_0, .slice A0_1 l0_1.length c0_1]] rfl qa_ ?_; (with_reducible refine (impl_SurfaceOk.calls k _ _ l0_0 _ _ l0_1 true _ (cb_ HR0_0) HC0_0.out (cb_ HR0_1) HC0_1.out A2.out).mono ?_); rintro e w8 ⟨rfl, hb⟩; refine ⟨_, rfl, ?_⟩; replace BK349 := bb_ BK349 hb; replace HB := b1_ hb; clear hb))
    replace BK349 := Aside0.mk (blk_drew BK349.out)
    replace HB := Aside0.mk (below_drew1 HB.out)
    refine start_ (n := 9) (S := fun w' => w'.cell? ⟨gb349, 0, none⟩ = some (.slice A0_0 l0_0.length c0_0) ∧ w'.cell? ⟨gb349, 1, none⟩ = some (.slice A0_1 l0_1.length c0_1)) (ds := []) (bl_ 9 0) (by kernel_rfl) rfl (by kernel_rfl) ⟨cz0_ BK349, cz1_ BK349⟩ (fun hHeld => ?_); refine with_tabW impl_GenusOf.tab3 impl_GenusOf.bits3 (fun HT_ HW_ => ?_)
    generalize w8.drew = w9 at BK349 HB hHeld ⊢
    refine ta_ 0 (some 6) (bl_ 9 1) HT_ HW_ hHeld ?_
    refine ta_ 2 (some 8) (bl_ 9 5) HT_ HW_ hHeld ?_
    refine on_ 1 (some 7) (bl_ 9 7) HT_ (fun K hK => ?_)
    refine gO_ Try.func23 #[.agg #[.slice A0_0 l0_0.length c0_0, .slice A0_1 l0_1.length c0_1]] (by rfl) rfl rfl qa_ ?_
    with_reducible refine (impl_CountSquares.calls k _ _ l0_0 _ _ l0_1 t351 _ (cb_ HR0_0) HC0_0.out (cb_ HR0_1) HC0_1.out A4.out).mono ?_
    rintro e w10 ⟨rfl, hb⟩
    refine ⟨_, rfl, ?_⟩
    replace BK349 := bb_ BK349 hb
    replace HB := b1_ hb
    clear hb
    refine hK.out _ _ ⟨cz0_ BK349, cz1_ BK349⟩ (fun hHeld => ?_)
    clear hK K
    refine no_ (some 7) ?_
    refine on_ 3 (some 9) (bl_ 9 15) HT_ (fun K hK => ?_)
    refine gO_ Try.func72 #[.agg #[.slice A0_0 l0_0.length c0_0, .slice A0_1 l0_1.length c0_1]] (by rfl) rfl rfl qa_ ?_
    with_reducible refine (impl_CornersOf.calls k _ _ l0_0 _ _ l0_1 t352 _ (cb_ HR0_0) HC0_0.out (cb_ HR0_1) HC0_1.out A5.out).mono ?_
    rintro e w11 ⟨v353, rfl, ho0, hb⟩
    refine ⟨_, rfl, ?_⟩
    have HO354 := Aside0.mk (Kd.S_lower ho0 (below_size hB_))
    replace BK349 := bb_ BK349 hb
    replace HB := b1_ hb
    clear hb ho0
    obtain ⟨Ao12, co12, eo12⟩ := Kd.S_slice HO354.out
    (first | subst eo12 | (injection eo12 with f1_ f2_ f3_; have f4_ := f1_.symm; have f5_ := f3_.symm; clear f1_ f2_ f3_; subst f4_; subst f5_))
    refine hK.out _ _ ⟨cz0_ BK349, cz1_ BK349⟩ (fun hHeld => ?_)
    clear hK K
    refine no_ (some 9) ?_
    refine pu_ 4 (some 10) (bl_ 9 31) HT_ ?_
    refine pu_ 5 (some 11) (bl_ 9 63) HT_ ?_
    refine pu_ 6 (some 12) (bl_ 9 127) HT_ ?_
    refine pu_ 7 (some 13) (bl_ 9 255) HT_ ?_
    refine pu_ 8 (some 2) (bl_ 9 511) HT_ ?_
    refine done_ (done_of HT_.out (by kernel_rfl)) ?_
    try go_wp2
    go_ret
    exact ⟨qb_, hB_⟩
  · replace c3 := Bool.eq_false_iff.mpr c3
    subst c3
    have H1 : (some (-1)) = some r := by rw [if_neg (show ¬ (false = true) by decide)] at H; exact H
    clear H
    have H := H1
    clear H1
    obtain rfl := Option.some.inj H
    go_enter Try.func27, Try.ntmps27
    go_wp2_with (first | ((with_reducible refine gate_dst (N := 1) rfl ?_); refine bx_ 1 #[.slice A0_0 l0_0.length c0_0, .slice A0_1 l0_1.length c0_1] 33 ?_; intro gb349 hg w13 hbox hb; have BK349 := Aside0.mk hbox; have GW349 := gw_ w hg; have GE349 := GW349; replace HB := b1_ hb; clear hb hbox hg; obtain ⟨hcz14_0, hcz14_1, hfz14_0, hfz14_1⟩ := c2_ BK349) | ((with_reducible refine gate_callee (f := 19) rfl ?_); refine gL_ (some 4) Try.func19 #[.agg #[.slice A0_0 l0_0.length c0_0, .slice A0_1 l0_1.length c0_1]] rfl qa_ ?_; (with_reducible refine (impl_SurfaceOk.calls k _ _ l0_0 _ _ l0_1 false _ (cb_ HR0_0) HC0_0.out (cb_ HR0_1) HC0_1.out A2.out).mono ?_); rintro e w15 ⟨rfl, hb⟩; refine ⟨_, rfl, ?_⟩; replace BK349 := bb_ BK349 hb; replace HB := b1_ hb; clear hb))
    go_ret
    exact ⟨qb_, hB_⟩
end Go.Proofs.Ytoijcallajegfaa.A
end
section
namespace Go.Proofs.Ytoijcallajegfaa.A
open Go.RowKit Go.Proofs.YtoijcallajegfaaW.PrintWords Go.Proofs.YtoijcallajegfaaW.PrintLast Go.Proofs.YtoijcallajegfaaW.PrintMore
attribute [local go_sem] max2_int min2_int max_two min_two max_three min_three max_four min_four
set_option linter.unusedVariables false
set_option linter.unusedSimpArgs false
mutual
def impl_CountTori.j0 : Nat → Int → Bool → Option (Int)
  | 0, _, _ => none
  | k + 1, x0, x11 => if x11 = true then (some (-1)) else ((impl_SurfacesWith.f k x0).bind fun t355 => (impl_CountTori.l0 k 0 t355 (t355.length : Int) 0))
def impl_CountTori.l0 : Nat → Int → List (S33) → Int → Int → Option (Int)
  | 0, _, _, _, _ => none
  | k + 1, x3, x13, x14, x15 => if x15 < x14 then (if 0 ≤ x15 then (if x15 < (x13.length : Int) then ((impl_GenusOf.f k ((rd_T33 x13 x15).f0) ((rd_T33 x13 x15).f1)).bind fun t360 => (if t360 = 1 then (impl_CountTori.l0 k (wrap64 (x3 + 1)) x13 x14 (wrap64 (x15 + 1))) else (impl_CountTori.l0 k x3 x13 x14 (wrap64 (x15 + 1))))) else (none)) else (none)) else (some x3)
end
def impl_CountTori.f (k : Nat) (a0 : Int) : Option (Int) := if a0 < 1 then (impl_CountTori.j0 k a0 true) else (impl_CountTori.j0 k a0 (decide (a0 > 4)))
theorem impl_CountTori.mono_l : ∀ k, (∀ y0 y1, LeO (impl_CountTori.j0 k y0 y1) (impl_CountTori.j0 (k + 1) y0 y1)) ∧ (∀ y0 y1 y2 y3, LeO (impl_CountTori.l0 k y0 y1 y2 y3) (impl_CountTori.l0 (k + 1) y0 y1 y2 y3))
  | 0 => ⟨fun _ _ r h => by simp [impl_CountTori.j0] at h, fun _ _ _ _ r h => by simp [impl_CountTori.l0] at h⟩
  | k + 1 => by
    obtain ⟨ih0, ih1⟩ := impl_CountTori.mono_l k
    refine ⟨?_, ?_⟩
    · intro y0 y1
      unfold impl_CountTori.j0
      repeat' first|exact ih0 _ _|exact ih1 _ _ _ _|exact impl_GenusOf.mono _ _ _|exact impl_SurfacesWith.mono _ _|exact lo_|refine LeO.ite ?_ ?_|refine LeO.bind ?_ (fun _ => ?_)
    · intro y0 y1 y2 y3
      unfold impl_CountTori.l0
      repeat' first|exact ih0 _ _|exact ih1 _ _ _ _|exact impl_GenusOf.mono _ _ _|exact impl_SurfacesWith.mono _ _|exact lo_|refine LeO.ite ?_ ?_|refine LeO.bind ?_ (fun _ => ?_)
theorem impl_CountTori.mono : ∀ a0 k, LeO (impl_CountTori.f k a0) (impl_CountTori.f (k + 1) a0) := by
  intro a0 k
  obtain ⟨ih0, ih1⟩ := impl_CountTori.mono_l k
  unfold impl_CountTori.f
  repeat' first|exact ih0 _ _|exact ih1 _ _ _ _|exact impl_GenusOf.mono _ _ _|exact impl_SurfacesWith.mono _ _|exact lo_|refine LeO.ite ?_ ?_|refine LeO.bind ?_ (fun _ => ?_)
set_option maxHeartbeats 8000000 in
set_option maxRecDepth 100000 in
theorem impl_CountTori.calls (k : Nat) (a0 : Int) (r : Int) (w : World) (h : impl_CountTori.f k a0 = some r) :
    Calls Try.prog 13 #[.int .i64 a0] w fun e w' => e = .returned (.int .i64 r) ∧ Below w.heap.size w w' := by
  have hu33 := Try.underlying33
  have HB := Aside0.mk (Below.refl w.heap.size w)
  have H := h
  unfold impl_CountTori.f at H
  clear h
  have HC2 := Aside0.mk H
  clear H
  go_enter Try.func13, Try.ntmps13
  go_upto_region 1 with (fail)
  go_cut [11] (fun v11 wc => ∃ (kq : Nat) (x11_1 : Bool), v11 = .bool x11_1 ∧ Aside0 (impl_CountTori.j0 kq a0 x11_1 = some r) ∧ Aside0 (kq ≤ k) ∧ Aside0 (Below w.heap.size w wc))
  case first =>
    have H := HC2.out
    clear HC2
    by_cases c3 : a0 < 1
    · rw [if_pos c3] at H
      have c3b0 := decide_eq_true c3
      clear c3
      (first | rw [c3b0] | (simp only [i64_w, i32_w]; rw [c3b0]) | skip)
      have H' := Aside0.mk H
      clear H
      go_wp2
      go_meet
      case rel => exact ⟨_, (true), qc_, H', ⟨qd_⟩, ⟨hB_⟩⟩
    · rw [if_neg c3] at H
      have c3b0 := decide_eq_false c3
      clear c3
      (first | rw [c3b0] | (simp only [i64_w, i32_w]; rw [c3b0]) | skip)
      have H' := Aside0.mk H
      clear H
      go_wp2
      go_meet
      case rel => exact ⟨_, (decide (a0 > 4)), qc_, H', ⟨qd_⟩, ⟨hB_⟩⟩
  case rest =>
    clear HC2
    obtain ⟨kq, x11_1, rfl, HA, HJ1, HB⟩ := hcut
    cases kq with
    | zero => exact absurd HA.out (by simp [impl_CountTori.j0])
    | succ kj1 =>
      have H := HA.out
      clear HA
      simp only [impl_CountTori.j0] at H
      by_cases c4 : x11_1 = true
      · subst c4
        rw [if_pos rfl] at H
        obtain rfl := Option.some.inj H
        go_wp2
        go_ret
        exact ⟨qb_, hB_⟩
      · replace c4 := Bool.eq_false_iff.mpr c4
        subst c4
        have H1 : ((impl_SurfacesWith.f kj1 a0).bind fun t355 => (impl_CountTori.l0 kj1 0 t355 (t355.length : Int) 0)) = some r := by rw [if_neg (show ¬ (false = true) by decide)] at H; exact H
        clear H
        have H := H1
        clear H1
        obtain ⟨t355, A5, H⟩ := bi_ H
        have H' := Aside0.mk H
        clear H
        go_wp2_with (first | ((with_reducible refine gate_callee (f := 12) rfl ?_); refine gL_ (some 13) Try.func12 #[.int .i64 a0] rfl qa_ ?_; (with_reducible refine (impl_SurfacesWith.calls kj1 a0 t355 _ A5.out).mono ?_); rintro e w6 ⟨v356, rfl, ho0, hb⟩; refine ⟨_, rfl, ?_⟩; have HO357 := Aside0.mk (Kd.S_lower ho0 (below_size hB_)); replace HB := b1_ hb; clear hb ho0; obtain ⟨Ao7, co7, eo7⟩ := Kd.S_slice HO357.out; subst eo7))
        go_loopg [3, 15] kj1 (fun kq v3 v15 w' => ∃ (x3_2 : Int) (x15_2 : Int), v3 = .int .i64 x3_2 ∧ v15 = .int .i64 x15_2 ∧ Aside0 (impl_CountTori.l0 kq x3_2 t355 (t355.length : Int) x15_2 = some r) ∧ Aside0 (kq ≤ kj1) ∧ Aside0 (Kd.S k33 33 w' w.heap.size (fun _ => True) (.slice Ao7 t355.length co7) t355) ∧ Aside0 (Below w.heap.size w w'))
        case atStart => exact ⟨(0), (0), qc_, qc_, H', ⟨Nat.le_refl _⟩, ⟨(ss_ HO357)⟩, ⟨hB_⟩⟩
        case round =>
          clear H'
          obtain ⟨x3_2, x15_2, rfl, rfl, HA, HK2, HO_13, HB⟩ := hrel
          cases gk with
          | zero => exact absurd HA.out (by simp [impl_CountTori.l0])
          | succ k2 =>
            have H := HA.out
            clear HA
            simp only [impl_CountTori.l0] at H
            by_cases c8 : x15_2 < (t355.length : Int)
            · rw [if_pos c8] at H
              have c8b0 := decide_eq_true c8
              clear c8
              have c9 := cp_ H
              replace H := ca_ H
              have c9b0 := decide_eq_true c9
              clear c9
              have c10 := cp_ H
              replace H := ca_ H
              have c10b0 := decide_eq_true c10
              clear c10
              obtain ⟨t360, A11, H⟩ := bi_ H
              by_cases c12 : t360 = 1
              · rw [if_pos c12] at H
                have c12b0 : (t360 == 1) = true := beq_iff_eq.mpr c12
                have c12b1 : (t360 != 1) = false := bne_eq_false_iff_eq.mpr c12
                clear c12
                have H' := Aside0.mk H
                clear H
                have p358 : 0 ≤ (x15_2 : Int) := of_decide_eq_true qe_
                have q358 : x15_2 < (t355.length : Int) := of_decide_eq_true qe_
                obtain ⟨ad358, A358_0, c358_0, A358_1, c358_1, e358, hx358_0, hx358_1, hl358_0, hi358_0, hl358_1, hi358_1⟩ := at_T33 (Kd.S_reads' HO_13.out).2.2 x15_2 p358 q358
                cases e358
                obtain ⟨ce358, hce358, hMe358, hcc358⟩ := Kd.S_get HO_13.out z33 x15_2 p358 (by first | exact q358 | exact of_decide_eq_true qe_ | (have e_ := (Kd.S_reads' HO_13.out).1; omega))
                obtain ⟨ve358_0, ve358_1, rfl, ge358_0, ge358_1⟩ := k33_openM hMe358
                have hv358_0 := hcc358 0 _ rfl
                rw [Nat.add_zero] at hv358_0
                replace hv358_0 := Option.some.inj (hv358_0.symm.trans hx358_0)
                rw [hv358_0] at ge358_0
                have HL358_0 := Aside0.mk (show Kd.R (Kd.int .i64) 3 _ _ _ _ ((rd_T33 t355 x15_2).f0) from ge358_0)
                clear hv358_0 ge358_0
                have hv358_1 := hcc358 1 _ rfl
                rw [add_field _ _ 1 (by omega)] at hv358_1
                replace hv358_1 := Option.some.inj (hv358_1.symm.trans hx358_1)
                rw [hv358_1] at ge358_1
                have HL358_1 := Aside0.mk (show Kd.R (Kd.int .i64) 3 _ _ _ _ ((rd_T33 t355 x15_2).f1) from ge358_1)
                clear hv358_1 ge358_1
                clear hcc358 hce358
                have HR358_0 := Aside0.mk hi358_0
                have HC358_0 := Aside0.mk hl358_0
                clear hi358_0 hl358_0
                have HR358_1 := Aside0.mk hi358_1
                have HC358_1 := Aside0.mk hl358_1
                clear hi358_1 hl358_1
                replace p358 := eq_true p358
                replace q358 := eq_true q358
                go_wp2_with (first | ((with_reducible refine gate_dst (N := 5) rfl ?_); refine bx_ 5 #[.slice none 0 0, .slice none 0 0] 33 ?_; intro gb359 hg w13 hbox hb; replace HO_13 := Aside0.mk (Kd.S_below (Kd.S_elderB (ss_ HO_13) gb359 (Nat.le_of_eq hg.symm)) hb); replace HL358_0 := rb_ HL358_0 hb; replace HL358_1 := rb_ HL358_1 hb; replace HR358_0 := Aside0.mk (Kd.C_below (by repeat (first | (with_reducible exact HR358_0.out) | (with_reducible refine Kd.C_alloc ?_ _) | (with_reducible refine Kd.C_drewN ?_ _) | (with_reducible refine Kd.C_drew ?_) | exact HR358_0.out)) hb); replace HR358_1 := Aside0.mk (Kd.C_below (by repeat (first | (with_reducible exact HR358_1.out) | (with_reducible refine Kd.C_alloc ?_ _) | (with_reducible refine Kd.C_drewN ?_ _) | (with_reducible refine Kd.C_drew ?_) | exact HR358_1.out)) hb); have BK359 := Aside0.mk hbox; have GW359 := gw_ w hg; have GE359 := GW359; replace HB := b1_ hb; clear hb hbox hg; obtain ⟨hcz14_0, hcz14_1, hfz14_0, hfz14_1⟩ := c2_ BK359) | ((with_reducible refine gate_callee (f := 27) rfl ?_); refine gL_ (some 20) Try.func27 #[.agg #[.slice A358_0 ((rd_T33 t355 x15_2).f0).length c358_0, .slice A358_1 ((rd_T33 t355 x15_2).f1).length c358_1]] rfl qa_ ?_; (with_reducible refine (impl_GenusOf.calls k2 _ _ ((rd_T33 t355 x15_2).f0) _ _ ((rd_T33 t355 x15_2).f1) t360 _ ?side1 ?side2 ?side3 ?side4 A11.out).mono ?_); (case side1 => repeat (first | exact ((Kd.R_reads' (rw_ (Kd.R_mono (Kd.R_far (p := ⟨gb359, 1, none⟩) (Kd.R_far (p := ⟨gb359, 0, none⟩) (Kd.R_types HL358_0.out BK359.out (by decide)) (fun _ hk => hk.2) (.slice A358_0 ((rd_T33 t355 x15_2).f0).length c358_0)) (fun _ hk => hk.2) (.slice A358_1 ((rd_T33 t355 x15_2).f1).length c358_1)) (fun _ h_ => h_.1)))).2.2) | (with_reducible refine Kd.C_alloc ?_ _) | (with_reducible refine Kd.C_drewN ?_ _) | (with_reducible refine Kd.C_drew ?_))); (case side2 => exact HC358_0.out); (case side3 => repeat (first | exact ((Kd.R_reads' (rw_ (Kd.R_mono (Kd.R_far (p := ⟨gb359, 1, none⟩) (Kd.R_far (p := ⟨gb359, 0, none⟩) (Kd.R_types HL358_1.out BK359.out (by decide)) (fun _ hk => hk.2) (.slice A358_0 ((rd_T33 t355 x15_2).f0).length c358_0)) (fun _ hk => hk.2) (.slice A358_1 ((rd_T33 t355 x15_2).f1).length c358_1)) (fun _ h_ => h_.1)))).2.2) | (with_reducible refine Kd.C_alloc ?_ _) | (with_reducible refine Kd.C_drewN ?_ _) | (with_reducible refine Kd.C_drew ?_))); (case side4 => exact HC358_1.out); rintro e w15 ⟨rfl, hb⟩; refine ⟨_, rfl, ?_⟩; replace HO_13 := Aside0.mk (Kd.S_below (sw_ (Kd.S_mono (Kd.S_far (p := ⟨gb359, 1, none⟩) (Kd.S_far (p := ⟨gb359, 0, none⟩) (Kd.S_mono HO_13.out (fun k_ hk => (⟨hk, hk.2⟩ : _ ∧ k_ ≠ gb359))) (fun _ hk => hk.2) (.slice A358_0 ((rd_T33 t355 x15_2).f0).length c358_0)) (fun _ hk => hk.2) (.slice A358_1 ((rd_T33 t355 x15_2).f1).length c358_1)) (fun _ h_ => h_.1))) hb); replace HR358_0 := Aside0.mk (Kd.C_below ((Kd.R_reads' (rw_ (Kd.R_mono (Kd.R_far (p := ⟨gb359, 1, none⟩) (Kd.R_far (p := ⟨gb359, 0, none⟩) (Kd.R_types HL358_0.out BK359.out (by decide)) (fun _ hk => hk.2) (.slice A358_0 ((rd_T33 t355 x15_2).f0).length c358_0)) (fun _ hk => hk.2) (.slice A358_1 ((rd_T33 t355 x15_2).f1).length c358_1)) (fun _ h_ => h_.1)))).2.2) hb); replace HL358_0 := Aside0.mk (Kd.R_below (rw_ (Kd.R_mono (Kd.R_far (p := ⟨gb359, 1, none⟩) (Kd.R_far (p := ⟨gb359, 0, none⟩) (Kd.R_types HL358_0.out BK359.out (by decide)) (fun _ hk => hk.2) (.slice A358_0 ((rd_T33 t355 x15_2).f0).length c358_0)) (fun _ hk => hk.2) (.slice A358_1 ((rd_T33 t355 x15_2).f1).length c358_1)) (fun _ h_ => h_.1))) hb); replace HR358_1 := Aside0.mk (Kd.C_below ((Kd.R_reads' (rw_ (Kd.R_mono (Kd.R_far (p := ⟨gb359, 1, none⟩) (Kd.R_far (p := ⟨gb359, 0, none⟩) (Kd.R_types HL358_1.out BK359.out (by decide)) (fun _ hk => hk.2) (.slice A358_0 ((rd_T33 t355 x15_2).f0).length c358_0)) (fun _ hk => hk.2) (.slice A358_1 ((rd_T33 t355 x15_2).f1).length c358_1)) (fun _ h_ => h_.1)))).2.2) hb); replace HL358_1 := Aside0.mk (Kd.R_below (rw_ (Kd.R_mono (Kd.R_far (p := ⟨gb359, 1, none⟩) (Kd.R_far (p := ⟨gb359, 0, none⟩) (Kd.R_types HL358_1.out BK359.out (by decide)) (fun _ hk => hk.2) (.slice A358_0 ((rd_T33 t355 x15_2).f0).length c358_0)) (fun _ hk => hk.2) (.slice A358_1 ((rd_T33 t355 x15_2).f1).length c358_1)) (fun _ h_ => h_.1))) hb); replace BK359 := Aside0.mk (blk_below (g := gb359) (o := .cells #[.slice A358_0 ((rd_T33 t355 x15_2).f0).length c358_0, .slice A358_1 ((rd_T33 t355 x15_2).f1).length c358_1] 33 (0, 0)) qp_ hb); replace HB := b1_ hb; clear hb))
                go_roundg k2
                case measure => have := HJ1.out; have := HK2.out; omega
                case rel => exact ⟨(wrap64 (x3_2 + 1)), (wrap64 (x15_2 + 1)), qc_, qc_, H', ⟨by have := HJ1.out; have := HK2.out; omega⟩, ⟨(sw_ (Kd.S_mono HO_13.out (fun _ hk => trivial)))⟩, ⟨hB_⟩⟩
              · rw [if_neg c12] at H
                have c12b0 : (t360 == 1) = false := beq_eq_false_iff_ne.mpr c12
                have c12b1 : (t360 != 1) = true := bne_iff_ne.mpr c12
                have H' := Aside0.mk H
                clear H
                have p358 : 0 ≤ (x15_2 : Int) := of_decide_eq_true qe_
                have q358 : x15_2 < (t355.length : Int) := of_decide_eq_true qe_
                obtain ⟨ad358, A358_0, c358_0, A358_1, c358_1, e358, hx358_0, hx358_1, hl358_0, hi358_0, hl358_1, hi358_1⟩ := at_T33 (Kd.S_reads' HO_13.out).2.2 x15_2 p358 q358
                cases e358
                obtain ⟨ce358, hce358, hMe358, hcc358⟩ := Kd.S_get HO_13.out z33 x15_2 p358 (by first | exact q358 | exact of_decide_eq_true qe_ | (have e_ := (Kd.S_reads' HO_13.out).1; omega))
                obtain ⟨ve358_0, ve358_1, rfl, ge358_0, ge358_1⟩ := k33_openM hMe358
                have hv358_0 := hcc358 0 _ rfl
                rw [Nat.add_zero] at hv358_0
                replace hv358_0 := Option.some.inj (hv358_0.symm.trans hx358_0)
                rw [hv358_0] at ge358_0
                have HL358_0 := Aside0.mk (show Kd.R (Kd.int .i64) 3 _ _ _ _ ((rd_T33 t355 x15_2).f0) from ge358_0)
                clear hv358_0 ge358_0
                have hv358_1 := hcc358 1 _ rfl
                rw [add_field _ _ 1 (by omega)] at hv358_1
                replace hv358_1 := Option.some.inj (hv358_1.symm.trans hx358_1)
                rw [hv358_1] at ge358_1
                have HL358_1 := Aside0.mk (show Kd.R (Kd.int .i64) 3 _ _ _ _ ((rd_T33 t355 x15_2).f1) from ge358_1)
                clear hv358_1 ge358_1
                clear hcc358 hce358
                have HR358_0 := Aside0.mk hi358_0
                have HC358_0 := Aside0.mk hl358_0
                clear hi358_0 hl358_0
                have HR358_1 := Aside0.mk hi358_1
                have HC358_1 := Aside0.mk hl358_1
                clear hi358_1 hl358_1
                replace p358 := eq_true p358
                replace q358 := eq_true q358
                go_wp2_with (first | ((with_reducible refine gate_dst (N := 5) rfl ?_); refine bx_ 5 #[.slice none 0 0, .slice none 0 0] 33 ?_; intro gb359 hg w16 hbox hb; replace HO_13 := Aside0.mk (Kd.S_below (Kd.S_elderB (ss_ HO_13) gb359 (Nat.le_of_eq hg.symm)) hb); replace HL358_0 := rb_ HL358_0 hb; replace HL358_1 := rb_ HL358_1 hb; replace HR358_0 := Aside0.mk (Kd.C_below (by repeat (first | (with_reducible exact HR358_0.out) | (with_reducible refine Kd.C_alloc ?_ _) | (with_reducible refine Kd.C_drewN ?_ _) | (with_reducible refine Kd.C_drew ?_) | exact HR358_0.out)) hb); replace HR358_1 := Aside0.mk (Kd.C_below (by repeat (first | (with_reducible exact HR358_1.out) | (with_reducible refine Kd.C_alloc ?_ _) | (with_reducible refine Kd.C_drewN ?_ _) | (with_reducible refine Kd.C_drew ?_) | exact HR358_1.out)) hb); have BK359 := Aside0.mk hbox; have GW359 := gw_ w hg; have GE359 := GW359; replace HB := b1_ hb; clear hb hbox hg; obtain ⟨hcz17_0, hcz17_1, hfz17_0, hfz17_1⟩ := c2_ BK359) | ((with_reducible refine gate_callee (f := 27) rfl ?_); refine gL_ (some 20) Try.func27 #[.agg #[.slice A358_0 ((rd_T33 t355 x15_2).f0).length c358_0, .slice A358_1 ((rd_T33 t355 x15_2).f1).length c358_1]] rfl qa_ ?_; (with_reducible refine (impl_GenusOf.calls k2 _ _ ((rd_T33 t355 x15_2).f0) _ _ ((rd_T33 t355 x15_2).f1) t360 _ ?side1 ?side2 ?side3 ?side4 A11.out).mono ?_); (case side1 => repeat (first | exact ((Kd.R_reads' (rw_ (Kd.R_mono (Kd.R_far (p := ⟨gb359, 1, none⟩) (Kd.R_far (p := ⟨gb359, 0, none⟩) (Kd.R_types HL358_0.out BK359.out (by decide)) (fun _ hk => hk.2) (.slice A358_0 ((rd_T33 t355 x15_2).f0).length c358_0)) (fun _ hk => hk.2) (.slice A358_1 ((rd_T33 t355 x15_2).f1).length c358_1)) (fun _ h_ => h_.1)))).2.2) | (with_reducible refine Kd.C_alloc ?_ _) | (with_reducible refine Kd.C_drewN ?_ _) | (with_reducible refine Kd.C_drew ?_))); (case side2 => exact HC358_0.out); (case side3 => repeat (first | exact ((Kd.R_reads' (rw_ (Kd.R_mono (Kd.R_far (p := ⟨gb359, 1, none⟩) (Kd.R_far (p := ⟨gb359, 0, none⟩) (Kd.R_types HL358_1.out BK359.out (by decide)) (fun _ hk => hk.2) (.slice A358_0 ((rd_T33 t355 x15_2).f0).length c358_0)) (fun _ hk => hk.2) (.slice A358_1 ((rd_T33 t355 x15_2).f1).length c358_1)) (fun _ h_ => h_.1)))).2.2) | (with_reducible refine Kd.C_alloc ?_ _) | (with_reducible refine Kd.C_drewN ?_ _) | (with_reducible refine Kd.C_drew ?_))); (case side4 => exact HC358_1.out); rintro e w18 ⟨rfl, hb⟩; refine ⟨_, rfl, ?_⟩; replace HO_13 := Aside0.mk (Kd.S_below (sw_ (Kd.S_mono (Kd.S_far (p := ⟨gb359, 1, none⟩) (Kd.S_far (p := ⟨gb359, 0, none⟩) (Kd.S_mono HO_13.out (fun k_ hk => (⟨hk, hk.2⟩ : _ ∧ k_ ≠ gb359))) (fun _ hk => hk.2) (.slice A358_0 ((rd_T33 t355 x15_2).f0).length c358_0)) (fun _ hk => hk.2) (.slice A358_1 ((rd_T33 t355 x15_2).f1).length c358_1)) (fun _ h_ => h_.1))) hb); replace HR358_0 := Aside0.mk (Kd.C_below ((Kd.R_reads' (rw_ (Kd.R_mono (Kd.R_far (p := ⟨gb359, 1, none⟩) (Kd.R_far (p := ⟨gb359, 0, none⟩) (Kd.R_types HL358_0.out BK359.out (by decide)) (fun _ hk => hk.2) (.slice A358_0 ((rd_T33 t355 x15_2).f0).length c358_0)) (fun _ hk => hk.2) (.slice A358_1 ((rd_T33 t355 x15_2).f1).length c358_1)) (fun _ h_ => h_.1)))).2.2) hb); replace HL358_0 := Aside0.mk (Kd.R_below (rw_ (Kd.R_mono (Kd.R_far (p := ⟨gb359, 1, none⟩) (Kd.R_far (p := ⟨gb359, 0, none⟩) (Kd.R_types HL358_0.out BK359.out (by decide)) (fun _ hk => hk.2) (.slice A358_0 ((rd_T33 t355 x15_2).f0).length c358_0)) (fun _ hk => hk.2) (.slice A358_1 ((rd_T33 t355 x15_2).f1).length c358_1)) (fun _ h_ => h_.1))) hb); replace HR358_1 := Aside0.mk (Kd.C_below ((Kd.R_reads' (rw_ (Kd.R_mono (Kd.R_far (p := ⟨gb359, 1, none⟩) (Kd.R_far (p := ⟨gb359, 0, none⟩) (Kd.R_types HL358_1.out BK359.out (by decide)) (fun _ hk => hk.2) (.slice A358_0 ((rd_T33 t355 x15_2).f0).length c358_0)) (fun _ hk => hk.2) (.slice A358_1 ((rd_T33 t355 x15_2).f1).length c358_1)) (fun _ h_ => h_.1)))).2.2) hb); replace HL358_1 := Aside0.mk (Kd.R_below (rw_ (Kd.R_mono (Kd.R_far (p := ⟨gb359, 1, none⟩) (Kd.R_far (p := ⟨gb359, 0, none⟩) (Kd.R_types HL358_1.out BK359.out (by decide)) (fun _ hk => hk.2) (.slice A358_0 ((rd_T33 t355 x15_2).f0).length c358_0)) (fun _ hk => hk.2) (.slice A358_1 ((rd_T33 t355 x15_2).f1).length c358_1)) (fun _ h_ => h_.1))) hb); replace BK359 := Aside0.mk (blk_below (g := gb359) (o := .cells #[.slice A358_0 ((rd_T33 t355 x15_2).f0).length c358_0, .slice A358_1 ((rd_T33 t355 x15_2).f1).length c358_1] 33 (0, 0)) qp_ hb); replace HB := b1_ hb; clear hb))
                go_roundg k2
                case measure => have := HJ1.out; have := HK2.out; omega
                case rel => exact ⟨(x3_2), (wrap64 (x15_2 + 1)), qc_, qc_, H', ⟨by have := HJ1.out; have := HK2.out; omega⟩, ⟨(sw_ (Kd.S_mono HO_13.out (fun _ hk => trivial)))⟩, ⟨hB_⟩⟩
            · rw [if_neg c8] at H
              have c8b0 := decide_eq_false c8
              clear c8
              obtain rfl := Option.some.inj H
              go_wp2
              go_ret
              exact ⟨qb_, hB_⟩
end Go.Proofs.Ytoijcallajegfaa.A
end
section
/- Plain mathematics: lists that fall, and the lengths of cycles. No conditions. -/
namespace Go.Proofs.Ytoijcallajegfaa.M
set_option linter.unusedVariables false
set_option linter.unusedSimpArgs false
def insD (x : Nat) : List Nat → List Nat
  | [] => [x]
  | y :: l => if y < x then x :: y :: l else y :: insD x l
def sortD (l : List Nat) : List Nat := l.foldl (fun a x => insD x a) []
def Fall (l : List Nat) : Prop := l.Pairwise (fun a b => b ≤ a)
theorem insD_perm (x : Nat) (l : List Nat) : (insD x l).Perm (x :: l) := by
  induction l with
  | nil => exact List.Perm.refl _
  | cons y l ih =>
    unfold insD
    split
    · exact List.Perm.refl _
    · exact (List.Perm.cons y ih).trans (List.Perm.swap x y l)
theorem insD_fall {x : Nat} {l : List Nat} (h : Fall l) : Fall (insD x l) := by
  induction l with
  | nil => exact List.pairwise_singleton _ _
  | cons y l ih =>
    obtain ⟨h1, h2⟩ := List.pairwise_cons.mp h
    unfold insD
    split
    · rename_i hy
      refine List.pairwise_cons.mpr ⟨fun b hb => ?_, h⟩
      rcases List.mem_cons.mp hb with rfl | hb
      · omega
      · have := h1 b hb
        omega
    · rename_i hy
      refine List.pairwise_cons.mpr ⟨fun b hb => ?_, ih h2⟩
      rcases List.mem_cons.mp ((insD_perm x l).mem_iff.mp hb) with rfl | hb
      · omega
      · exact h1 b hb
theorem sortD_aux : ∀ (l a : List Nat), Fall a → Fall (l.foldl (fun a x => insD x a) a) ∧ (l.foldl (fun a x => insD x a) a).Perm (a ++ l) := by
  intro l
  induction l with
  | nil => intro a h; exact ⟨h, by simp⟩
  | cons x l ih =>
    intro a h
    obtain ⟨h1, h2⟩ := ih (insD x a) (insD_fall h)
    refine ⟨h1, h2.trans ?_⟩
    exact ((insD_perm x a).append_right l).trans (List.perm_middle (l₁ := a) (a := x) (l₂ := l)).symm
theorem sortD_fall (l : List Nat) : Fall (sortD l) := (sortD_aux l [] List.Pairwise.nil).1
theorem sortD_perm (l : List Nat) : (sortD l).Perm l := (sortD_aux l [] List.Pairwise.nil).2
theorem fall_uniq : ∀ {a b : List Nat}, Fall a → Fall b → a.Perm b → a = b := by
  intro a
  induction a with
  | nil => intro b _ _ h; exact (List.nil_perm.mp h).symm
  | cons x a ih =>
    intro b ha hb h
    cases b with
    | nil => exact absurd (List.perm_nil.mp h) (by simp)
    | cons y b =>
      obtain ⟨a1, a2⟩ := List.pairwise_cons.mp ha
      obtain ⟨b1, b2⟩ := List.pairwise_cons.mp hb
      have e : x = y := by
        have h1 : x ∈ y :: b := h.mem_iff.mp (by simp)
        have h2 : y ∈ x :: a := h.mem_iff.mpr (by simp)
        rcases List.mem_cons.mp h1 with e | h1
        · exact e
        · rcases List.mem_cons.mp h2 with e | h2
          · exact e.symm
          · have := b1 x h1
            have := a1 y h2
            omega
      subst e
      rw [ih a2 b2 (List.Perm.cons_inv h)]
theorem sortD_len (l : List Nat) : (sortD l).length = l.length := (sortD_perm l).length_eq
end Go.Proofs.Ytoijcallajegfaa.M
end
section
namespace Go.Proofs.Ytoijcallajegfaa.A
open Go.RowKit Go.Proofs.YtoijcallajegfaaW.PrintWords Go.Proofs.YtoijcallajegfaaW.PrintLast Go.Proofs.YtoijcallajegfaaW.PrintMore
attribute [local go_sem] max2_int min2_int max_two min_two max_three min_three max_four min_four
set_option linter.unusedVariables false
set_option linter.unusedSimpArgs false
def slices_SortFunc_int_int_73.f (l0 : List Int) : Option (List Int) := if (∀ x ∈ l0, 0 ≤ x ∧ x ≤ 4611686018427387904) ∧ l0.length < 4611686018427387904 then some ((M.sortD (l0.map Int.toNat)).map fun (n : Nat) => (n : Int)) else none
theorem slices_SortFunc_int_int_73.closure (x y : Int) (W : World) : Calls Try.prog 74 #[.int .i64 x, .int .i64 y] W fun e w' => e = .returned (.int .i64 (wrap64 (y - x))) ∧ ∃ q os', w' = Go.Sort.grow (W.drewN q) os' := by
  go_enter Try.func74, Try.ntmps74
  go_wp2
  go_ret
  exact ⟨by first | rfl | (rw [i64_w]), 0, #[], by rw [Go.Sort.grow_empty]; rfl⟩
theorem slices_SortFunc_int_int_73.ord : M.Ord3 (fun x : Int => 0 ≤ x ∧ x ≤ 4611686018427387904) (fun x y => wrap64 (y - x)) where
  irr x hx := by unfold wrap64; omega
  tr x y z hx hy hz h1 h2 := by unfold wrap64 at *; omega
  nt x y z hx hy hz h1 h2 := by unfold wrap64 at *; omega
set_option maxHeartbeats 8000000 in
set_option maxRecDepth 100000 in
theorem slices_SortFunc_int_int_73.calls (P0_ : Nat → Prop) (u9000_ : Value) (l0 : List Int) (r : List Int) (w0 w : World) (hB : Below w0.heap.size w0 w) (ho0 : Kd.R (Kd.int .i64) 3 w w0.heap.size P0_ u9000_ l0) (h : slices_SortFunc_int_int_73.f l0 = some r) :
    Calls Try.prog 73 #[u9000_, .func (.func 74) #[] #[]] w fun e w' => e = .returned (.tuple #[]) ∧ Kd.R (Kd.int .i64) 3 w' w0.heap.size (fun k_ => (P0_ k_ ∨ w.heap.size ≤ k_)) u9000_ r ∧ Below w0.heap.size w0 w' ∧ Kept w w' (fun k_ => P0_ k_) := by
  unfold slices_SortFunc_int_int_73.f at h
  split at h
  · rename_i hq
    obtain rfl := Option.some.inj h
    have key := M.sortN1 (d := Kd.int .i64) (Q := fun x : Int => 0 ≤ x ∧ x ≤ 4611686018427387904) (cf := fun x y => wrap64 (y - x)) Try.sortA73 Try.sortB73 rfl slices_SortFunc_int_int_73.ord 74 (enters_of Try.func74 (by kernel_rfl) rfl)
      (fun W x y cx cy _ _ hx hy => by
        have e1 : cx = .int .i64 x := (List.cons.inj hx).1
        have e2 : cy = .int .i64 y := (List.cons.inj hy).1
        subst e1 e2
        exact slices_SortFunc_int_int_73.closure x y W) ho0 hq.1 hq.2
    refine key.mono ?_
    rintro e w' ⟨rfl, xs', hp, hs, hR, hK, hB2⟩
    have hx : xs' = (M.sortD (l0.map Int.toNat)).map fun (n : Nat) => (n : Int) := by
      have hnn : ∀ x ∈ xs', 0 ≤ x ∧ x ≤ 4611686018427387904 := fun x hx => hq.1 x (hp.mem_iff.1 hx)
      have h1 : xs' = (xs'.map Int.toNat).map fun (n : Nat) => (n : Int) := by
        rw [List.map_map]
        conv => lhs; rw [← List.map_id xs']
        apply List.map_congr_left
        intro x hx
        have := hnn x hx
        simp only [id, Function.comp]
        omega
      have h2 : M.Fall (xs'.map Int.toNat) := by
        unfold M.Fall
        rw [List.pairwise_map]
        refine hs.imp_of_mem ?_
        intro a b ha hb hab
        have := hnn a ha
        have := hnn b hb
        have hab' : ¬ wrap64 (a - b) < 0 := hab
        unfold wrap64 at hab'
        clear hab
        omega
      have h3 : xs'.map Int.toNat = M.sortD (l0.map Int.toNat) := M.fall_uniq h2 (M.sortD_fall _) ((hp.map _).trans (M.sortD_perm _).symm)
      rw [← h3]
      exact h1
    rw [← hx]
    exact ⟨rfl, Kd.R_mono hR (fun _ hk => .inl hk), hB.trans hB2, ⟨hK.1, fun i hi hn => hK.2 i hi (fun e_ => hn (ho0.1 i e_.symm))⟩⟩
  · cases h
end Go.Proofs.Ytoijcallajegfaa.A
end
section
namespace Go.Proofs.Ytoijcallajegfaa.A
open Go.RowKit Go.Proofs.YtoijcallajegfaaW.PrintWords Go.Proofs.YtoijcallajegfaaW.PrintLast Go.Proofs.YtoijcallajegfaaW.PrintMore
attribute [local go_sem] max2_int min2_int max_two min_two max_three min_three max_four min_four
set_option linter.unusedVariables false
set_option linter.unusedSimpArgs false
def impl_AnglesOf.l0 : Nat → List Int → List (List Int) → Int → Int → Option (List Int)
  | 0, _, _, _, _ => none
  | k + 1, x3, x8, x9, x10 => if x10 < x9 then (if 0 ≤ x10 then (if x10 < (x8.length : Int) then (if x3.length < 17592186044416 then (impl_AnglesOf.l0 k (x3 ++ [((rd_L5 x8 x10).length : Int)]) x8 x9 (wrap64 (x10 + 1))) else (none)) else (none)) else (none)) else ((slices_SortFunc_int_int_73.f x3).bind fun t372 => (some t372))
def impl_AnglesOf.f (k : Nat) (l0_0 : List Int) (l0_1 : List Int) : Option (List Int) := (impl_CornersOf.f k l0_0 l0_1).bind fun t365 => (impl_AnglesOf.l0 k (([] : List Int)) t365 (t365.length : Int) 0)
theorem impl_AnglesOf.mono_l : ∀ k, (∀ y0 y1 y2 y3, LeO (impl_AnglesOf.l0 k y0 y1 y2 y3) (impl_AnglesOf.l0 (k + 1) y0 y1 y2 y3))
  | 0 => fun _ _ _ _ r h => by simp [impl_AnglesOf.l0] at h
  | k + 1 => by
    have ih0 := impl_AnglesOf.mono_l k
    · intro y0 y1 y2 y3
      unfold impl_AnglesOf.l0
      repeat' first|exact ih0 _ _ _ _|exact impl_CornersOf.mono _ _ _|exact lo_|refine LeO.ite ?_ ?_|refine LeO.bind ?_ (fun _ => ?_)
theorem impl_AnglesOf.mono : ∀ a0 a1 k, LeO (impl_AnglesOf.f k a0 a1) (impl_AnglesOf.f (k + 1) a0 a1) := by
  intro a0 a1 k
  have ih0 := impl_AnglesOf.mono_l k
  unfold impl_AnglesOf.f
  repeat' first|exact ih0 _ _ _ _|exact impl_CornersOf.mono _ _ _|exact lo_|refine LeO.ite ?_ ?_|refine LeO.bind ?_ (fun _ => ?_)
set_option maxHeartbeats 8000000 in
set_option maxRecDepth 100000 in
theorem impl_AnglesOf.calls (k : Nat) (A0_0 : Option Addr) (c0_0 : Nat) (l0_0 : List Int) (A0_1 : Option Addr) (c0_1 : Nat) (l0_1 : List Int) (r : List Int) (w : World) (hr0_0 : Kd.C (Kd.int .i64) w A0_0 l0_0.length l0_0) (hc0_0 : l0_0.length ≤ c0_0) (hr0_1 : Kd.C (Kd.int .i64) w A0_1 l0_1.length l0_1) (hc0_1 : l0_1.length ≤ c0_1) (h : impl_AnglesOf.f k l0_0 l0_1 = some r) :
    Calls Try.prog 25 #[.agg #[.slice A0_0 l0_0.length c0_0, .slice A0_1 l0_1.length c0_1]] w fun e w' => ∃ v0_ : Value, e = .returned (v0_) ∧ Kd.R (Kd.int .i64) 3 w' w.heap.size (fun _ => True) v0_ r ∧ Below w.heap.size w w' := by
  have hu33 := Try.underlying33
  have HR0_0 := Aside0.mk hr0_0
  have HC0_0 := Aside0.mk hc0_0
  clear hr0_0 hc0_0
  have HR0_1 := Aside0.mk hr0_1
  have HC0_1 := Aside0.mk hc0_1
  clear hr0_1 hc0_1
  have HB := Aside0.mk (Below.refl w.heap.size w)
  have H := h
  unfold impl_AnglesOf.f at H
  clear h
  obtain ⟨y362, hy362⟩ : ∃ y_ : List Int, y_ = (([] : List Int)) := ⟨_, rfl⟩
  replace H : ((impl_CornersOf.f k l0_0 l0_1).bind fun t365 => (impl_AnglesOf.l0 k y362 t365 (t365.length : Int) 0)) = some r := by first | (rw [hy362]; exact H) | exact H
  have Ny362 := Aside0.mk hy362
  clear hy362
  obtain ⟨t365, A2, H⟩ := bi_ H
  have H' := Aside0.mk H
  clear H
  go_enter Try.func25, Try.ntmps25
  go_wp2_with (first | ((with_reducible refine gate_dst (N := 1) rfl ?_); refine bx_ 1 #[.slice A0_0 l0_0.length c0_0, .slice A0_1 l0_1.length c0_1] 33 ?_; intro gb361 hg w3 hbox hb; have BK361 := Aside0.mk hbox; have GW361 := gw_ w hg; have GE361 := GW361; replace HB := b1_ hb; clear hb hbox hg) | ((with_reducible refine gate_dst (N := 6) rfl ?_); refine Kd.R_lit (Kd.int .i64) _ 3 ?hg (N := 6) ?hd (xs := ([] : List Int)) (inner := []) (ok := fun _ => True) (okp := fun _ => True) ?hr ?hp (fun _ hk => hk) trivial (Below.refl _ _) (Nat.le_refl _) (by simp) ?_; (case hd => rfl); (case hg => rfl); (case hr => first | (go_simp; done) | (go_simp; rfl)); (case hp => exact (Reps.none _ _)); intro v363 w4 ho5 hb hg_ hnew_; clear hg_ hnew_; (first | rw [← Ny362.out] at ho5 | (simp only [Int.reduceToNat] at ho5; rw [← Ny362.out] at ho5)); have HO364 := rl_ w ho5; replace BK361 := bb_ BK361 hb; replace HB := b1_ hb; clear hb ho5; obtain ⟨hcz6_0, hcz6_1, hfz6_0, hfz6_1⟩ := c2_ BK361) | ((with_reducible refine gate_callee (f := 72) rfl ?_); refine gL_ (some 8) Try.func72 #[.agg #[.slice A0_0 l0_0.length c0_0, .slice A0_1 l0_1.length c0_1]] rfl qa_ ?_; (with_reducible refine (impl_CornersOf.calls k _ _ l0_0 _ _ l0_1 t365 _ (cb_ HR0_0) HC0_0.out (cb_ HR0_1) HC0_1.out A2.out).mono ?_); rintro e w7 ⟨v366, rfl, ho0, hb⟩; refine ⟨_, rfl, ?_⟩; have HO367 := Aside0.mk (Kd.S_lower (Kd.S_new' ho0 (Kd.R_lt (rr_ HO364))) (below_size hB_)); replace HO364 := rb_ HO364 hb; replace BK361 := bb_ BK361 hb; replace HB := b1_ hb; clear hb ho0; obtain ⟨Ao8, co8, eo8⟩ := Kd.S_slice HO367.out; subst eo8))
  go_loopg [3, 10] k (fun kq v3 v10 w' => ∃ (x3_1 : List Int) (x10_1 : Int), v10 = .int .i64 x10_1 ∧ Aside0 (impl_AnglesOf.l0 kq x3_1 t365 (t365.length : Int) x10_1 = some r) ∧ Aside0 (kq ≤ k) ∧ Aside0 (Kd.R (Kd.int .i64) 3 w' w.heap.size (fun _ => True) v3 x3_1) ∧ Aside0 (Kd.S (Kd.slice 3 (Kd.int .i64)) 23 w' w.heap.size (fun k_ => some k_ ≠ (v3 : Value).ownBlock) (.slice Ao8 t365.length co8) t365) ∧ Aside0 (w'.heap[gb361]? = some (.cells #[(.slice A0_0 l0_0.length c0_0), (.slice A0_1 l0_1.length c0_1)] 33 (0, 0))) ∧ Aside0 (Below w.heap.size w w'))
  case atStart => exact ⟨(y362), (0), qc_, H', ⟨Nat.le_refl _⟩, ⟨(rr_ HO364)⟩, ⟨(sw_ (Kd.S_mono HO367.out (fun _ hk => hk.2)))⟩, ⟨(kk_ BK361)⟩, ⟨hB_⟩⟩
  case round =>
    clear H'
    obtain ⟨x3_1, x10_1, rfl, HA, HK1, HO_3, HO_8, BK361, HB⟩ := hrel
    cases gk with
    | zero => exact absurd HA.out (by simp [impl_AnglesOf.l0])
    | succ k1 =>
      have H := HA.out
      clear HA
      simp only [impl_AnglesOf.l0] at H
      by_cases c9 : x10_1 < (t365.length : Int)
      · rw [if_pos c9] at H
        have c9b0 := decide_eq_true c9
        clear c9
        have c10 := cp_ H
        replace H := ca_ H
        have c10b0 := decide_eq_true c10
        clear c10
        have c11 := cp_ H
        replace H := ca_ H
        have c11b0 := decide_eq_true c11
        clear c11
        have c12 := cp_ H
        replace H := ca_ H
        have LMc12 := Aside0.mk c12
        clear c12
        obtain ⟨y369, hy369⟩ : ∃ y_ : List Int, y_ = (x3_1 ++ [((rd_L5 t365 x10_1).length : Int)]) := ⟨_, rfl⟩
        replace H : (impl_AnglesOf.l0 k1 y369 t365 (t365.length : Int) (wrap64 (x10_1 + 1))) = some r := by first | (rw [hy369]; exact H) | exact H
        have Ny369 := Aside0.mk hy369
        clear hy369
        have H' := Aside0.mk H
        clear H
        have p368 : 0 ≤ (x10_1 : Int) := of_decide_eq_true qe_
        have q368 : x10_1 < (t365.length : Int) := of_decide_eq_true qe_
        obtain ⟨ad368, A368_0, c368_0, e368, hx368_0, hl368_0, hi368_0⟩ := at_L5 (Kd.S_reads' HO_8.out).2.2 x10_1 p368 q368
        cases e368
        obtain ⟨ce368, hce368, hMe368, hcc368⟩ := Kd.S_get HO_8.out [] x10_1 p368 (by first | exact q368 | exact of_decide_eq_true qe_ | (have e_ := (Kd.S_reads' HO_8.out).1; omega))
        obtain ⟨ve368_0, rfl, ge368_0⟩ := hMe368
        have hv368_0 := hcc368 0 _ rfl
        rw [Nat.add_zero, show ((Kd.slice 3 (Kd.int .i64))).sz = 1 from rfl, Nat.mul_one] at hv368_0
        replace hv368_0 := Option.some.inj (hv368_0.symm.trans hx368_0)
        rw [hv368_0] at ge368_0
        have HL368_0 := Aside0.mk (show Kd.R (Kd.int .i64) 3 _ _ _ _ (rd_L5 t365 x10_1) from ge368_0)
        clear hv368_0 ge368_0
        clear hcc368 hce368
        have HR368_0 := Aside0.mk hi368_0
        have HC368_0 := Aside0.mk hl368_0
        clear hi368_0 hl368_0
        replace p368 := eq_true p368
        replace q368 := eq_true q368
        go_wp2_with (first | ((with_reducible refine gate_builtin (b := .append) (xs := #[.tmp 14, .tmp 17]) rfl ?_); at_builtin; refine Kd.R_append (Kd.int .i64) (w0 := w) w.heap.size rfl (.tmp 14) (.tmp 17) 23 3 (.int .i64 0) 8 rfl Try.underlying23 info3 rfl (by decide) (by omega) u3 x3_1 ((rd_L5 t365 x10_1).length : Int) [.int .i64 ((rd_L5 t365 x10_1).length : Int)] (fun _ => True) (fun _ => False) rfl rfl ?aP (fun _ hk => hk.elim) ?aF ?aO ?aB ?aS ?aL ?_; (case aP => exact rfl); (case aB => exact hB_); (case aF => exact (fun _ _ => trivial)); (case aO => exact (rr_ HO_3)); (case aS => exact (below_size hB_)); (case aL => have := LMc12.out; omega); intro v370 w13 ho hb hg hat; rw [← Ny369.out] at ho; replace HO_8 := Aside0.mk (Kd.S_after (ok := (fun _ => True)) (sw_ (Kd.S_mono HO_8.out (fun _ hk => ⟨trivial, hk⟩))) hg hat); replace BK361 := Aside0.mk (blk_grown (kk_ BK361) hg (Kd.R_ne HO_3.out BK361.out (by decide))); replace HL368_0 := Aside0.mk (Kd.R_after (ok := (fun k_ => some k_ ≠ (.slice (some ad368) t365.length co8 : Value).ownBlock)) (rw_ (Kd.R_mono HL368_0.out (fun _ hk => ⟨hk.2, hk.1⟩))) hg hat); replace HB := Aside0.mk hb; have HO371 := Aside0.mk ho; clear HO_3; clear ho hb hg hat))
        go_roundg k1
        case measure => have := HK1.out; omega
        case rel => exact ⟨(y369), (wrap64 (x10_1 + 1)), qc_, H', ⟨by have := HK1.out; omega⟩, ⟨(rr_ HO371)⟩, ⟨(sw_ (Kd.S_mono HO_8.out (fun _ hk => hk.2)))⟩, ⟨(kk_ BK361)⟩, ⟨hB_⟩⟩
      · rw [if_neg c9] at H
        have c9b0 := decide_eq_false c9
        clear c9
        obtain ⟨t372, A14, H⟩ := bi_ H
        obtain rfl := Option.some.inj H
        obtain ⟨Ao15, co15, eo15⟩ := Kd.R_slice HO_3.out
        subst eo15
        go_wp2_with (first | ((with_reducible refine gate_callee (f := 73) rfl ?_); refine gL_ (some 21) Try.func73 #[.slice Ao15 x3_1.length co15, .func (.func 74) #[] #[]] rfl qa_ ?_; (with_reducible refine (slices_SortFunc_int_int_73.calls (fun k_ => some k_ = (.slice Ao15 x3_1.length co15 : Value).ownBlock) (.slice Ao15 x3_1.length co15) x3_1 t372 w _ ?side1 ?side2 A14.out).mono ?_); (case side1 => repeat (first | (with_reducible first | exact HB.out | apply below_alloc | apply pw_below_drewN | apply below_drew1 | refine below_set ?_ GE361.out) | exact HB.out)); (case side2 => exact Kd.R_tight rfl HO_3.out); rintro e w16 ⟨rfl, hy0, hb, hkp⟩; refine ⟨_, rfl, ?_⟩; replace HO_8 := Aside0.mk (Kd.S_mono (ok' := fun k_ => some k_ ≠ (.slice Ao15 x3_1.length co15 : Value).ownBlock) (Kd.S_keptB (HO_8.out) hkp (fun k_ hk_ hs_ => (hk_) hs_)) (fun k_ hk_ => hk_.1)); replace BK361 := Aside0.mk (blk_kept (kk_ BK361) hkp (fun hs_ => (fun e_ => (Kd.R_ne HO_3.out BK361.out (by decide)) e_) hs_)); replace HO_3 := Aside0.mk (Kd.R_reok rfl hy0 (fun k_ e_ => HO_3.out.1 k_ e_)); replace HB := Aside0.mk hb; clear hb hkp hy0))
        go_ret
        exact ⟨_, qb_, (rr_ HO_3), hB_⟩
end Go.Proofs.Ytoijcallajegfaa.A
end
section
namespace Go.Proofs.Ytoijcallajegfaa.A
open Go.RowKit Go.Proofs.YtoijcallajegfaaW.PrintWords Go.Proofs.YtoijcallajegfaaW.PrintLast Go.Proofs.YtoijcallajegfaaW.PrintMore
attribute [local go_sem] max2_int min2_int max_two min_two max_three min_three max_four min_four
set_option linter.unusedVariables false
set_option linter.unusedSimpArgs false
def impl_StratumOf.l0 : Nat → List Int → List Int → Int → Int → Option (List Int)
  | 0, _, _, _, _ => none
  | k + 1, x3, x8, x9, x10 => if x10 < x9 then (if 0 ≤ x10 then (if x10 < (x8.length : Int) then (if (rd x8 x10) > 1 then (if x3.length < 17592186044416 then (impl_StratumOf.l0 k (x3 ++ [wrap64 ((rd x8 x10) - 1)]) x8 x9 (wrap64 (x10 + 1))) else (none)) else (impl_StratumOf.l0 k x3 x8 x9 (wrap64 (x10 + 1)))) else (none)) else (none)) else (some x3)
def impl_StratumOf.f (k : Nat) (l0_0 : List Int) (l0_1 : List Int) : Option (List Int) := (impl_AnglesOf.f k l0_0 l0_1).bind fun t377 => (impl_StratumOf.l0 k (([] : List Int)) t377 (t377.length : Int) 0)
theorem impl_StratumOf.mono_l : ∀ k, (∀ y0 y1 y2 y3, LeO (impl_StratumOf.l0 k y0 y1 y2 y3) (impl_StratumOf.l0 (k + 1) y0 y1 y2 y3))
  | 0 => fun _ _ _ _ r h => by simp [impl_StratumOf.l0] at h
  | k + 1 => by
    have ih0 := impl_StratumOf.mono_l k
    · intro y0 y1 y2 y3
      unfold impl_StratumOf.l0
      repeat' first|exact ih0 _ _ _ _|exact impl_AnglesOf.mono _ _ _|exact lo_|refine LeO.ite ?_ ?_|refine LeO.bind ?_ (fun _ => ?_)
theorem impl_StratumOf.mono : ∀ a0 a1 k, LeO (impl_StratumOf.f k a0 a1) (impl_StratumOf.f (k + 1) a0 a1) := by
  intro a0 a1 k
  have ih0 := impl_StratumOf.mono_l k
  unfold impl_StratumOf.f
  repeat' first|exact ih0 _ _ _ _|exact impl_AnglesOf.mono _ _ _|exact lo_|refine LeO.ite ?_ ?_|refine LeO.bind ?_ (fun _ => ?_)
set_option maxHeartbeats 8000000 in
set_option maxRecDepth 100000 in
theorem impl_StratumOf.calls (k : Nat) (A0_0 : Option Addr) (c0_0 : Nat) (l0_0 : List Int) (A0_1 : Option Addr) (c0_1 : Nat) (l0_1 : List Int) (r : List Int) (w : World) (hr0_0 : Kd.C (Kd.int .i64) w A0_0 l0_0.length l0_0) (hc0_0 : l0_0.length ≤ c0_0) (hr0_1 : Kd.C (Kd.int .i64) w A0_1 l0_1.length l0_1) (hc0_1 : l0_1.length ≤ c0_1) (h : impl_StratumOf.f k l0_0 l0_1 = some r) :
    Calls Try.prog 26 #[.agg #[.slice A0_0 l0_0.length c0_0, .slice A0_1 l0_1.length c0_1]] w fun e w' => ∃ v0_ : Value, e = .returned (v0_) ∧ Kd.R (Kd.int .i64) 3 w' w.heap.size (fun _ => True) v0_ r ∧ Below w.heap.size w w' := by
  have hu33 := Try.underlying33
  have HR0_0 := Aside0.mk hr0_0
  have HC0_0 := Aside0.mk hc0_0
  clear hr0_0 hc0_0
  have HR0_1 := Aside0.mk hr0_1
  have HC0_1 := Aside0.mk hc0_1
  clear hr0_1 hc0_1
  have HB := Aside0.mk (Below.refl w.heap.size w)
  have H := h
  unfold impl_StratumOf.f at H
  clear h
  obtain ⟨y374, hy374⟩ : ∃ y_ : List Int, y_ = (([] : List Int)) := ⟨_, rfl⟩
  replace H : ((impl_AnglesOf.f k l0_0 l0_1).bind fun t377 => (impl_StratumOf.l0 k y374 t377 (t377.length : Int) 0)) = some r := by first | (rw [hy374]; exact H) | exact H
  have Ny374 := Aside0.mk hy374
  clear hy374
  obtain ⟨t377, A2, H⟩ := bi_ H
  have H' := Aside0.mk H
  clear H
  go_enter Try.func26, Try.ntmps26
  go_wp2_with (first | ((with_reducible refine gate_dst (N := 1) rfl ?_); refine bx_ 1 #[.slice A0_0 l0_0.length c0_0, .slice A0_1 l0_1.length c0_1] 33 ?_; intro gb373 hg w3 hbox hb; have BK373 := Aside0.mk hbox; have GW373 := gw_ w hg; have GE373 := GW373; replace HB := b1_ hb; clear hb hbox hg) | ((with_reducible refine gate_dst (N := 6) rfl ?_); refine Kd.R_lit (Kd.int .i64) _ 3 ?hg (N := 6) ?hd (xs := ([] : List Int)) (inner := []) (ok := fun _ => True) (okp := fun _ => True) ?hr ?hp (fun _ hk => hk) trivial (Below.refl _ _) (Nat.le_refl _) (by simp) ?_; (case hd => rfl); (case hg => rfl); (case hr => first | (go_simp; done) | (go_simp; rfl)); (case hp => exact (Reps.none _ _)); intro v375 w4 ho5 hb hg_ hnew_; clear hg_ hnew_; (first | rw [← Ny374.out] at ho5 | (simp only [Int.reduceToNat] at ho5; rw [← Ny374.out] at ho5)); have HO376 := rl_ w ho5; replace BK373 := bb_ BK373 hb; replace HB := b1_ hb; clear hb ho5; obtain ⟨hcz6_0, hcz6_1, hfz6_0, hfz6_1⟩ := c2_ BK373) | ((with_reducible refine gate_callee (f := 25) rfl ?_); refine gL_ (some 8) Try.func25 #[.agg #[.slice A0_0 l0_0.length c0_0, .slice A0_1 l0_1.length c0_1]] rfl qa_ ?_; (with_reducible refine (impl_AnglesOf.calls k _ _ l0_0 _ _ l0_1 t377 _ (cb_ HR0_0) HC0_0.out (cb_ HR0_1) HC0_1.out A2.out).mono ?_); rintro e w7 ⟨v378, rfl, ho0, hb⟩; refine ⟨_, rfl, ?_⟩; have HO379 := Aside0.mk (Kd.R_lower (Kd.R_new' ho0 (Kd.R_lt (rr_ HO376))) (below_size hB_)); replace HO376 := Aside0.mk (Kd.R_elder' (rr_ HO376) (Kd.R_base ho0) hb); replace BK373 := bb_ BK373 hb; replace HB := b1_ hb; clear hb ho0; obtain ⟨Ao8, co8, eo8⟩ := Kd.R_slice HO379.out; subst eo8))
  go_loopg [3, 10] k (fun kq v3 v10 w' => ∃ (x3_1 : List Int) (x10_1 : Int), v10 = .int .i64 x10_1 ∧ Aside0 (impl_StratumOf.l0 kq x3_1 t377 (t377.length : Int) x10_1 = some r) ∧ Aside0 (kq ≤ k) ∧ Aside0 (Kd.R (Kd.int .i64) 3 w' w.heap.size (fun k_ => some k_ ≠ ((.slice Ao8 t377.length co8) : Value).ownBlock) v3 x3_1) ∧ Aside0 (Kd.R (Kd.int .i64) 3 w' w.heap.size (fun k_ => some k_ ≠ (v3 : Value).ownBlock) (.slice Ao8 t377.length co8) t377) ∧ Aside0 (w'.heap[gb373]? = some (.cells #[(.slice A0_0 l0_0.length c0_0), (.slice A0_1 l0_1.length c0_1)] 33 (0, 0))) ∧ Aside0 (Below w.heap.size w w'))
  case atStart => exact ⟨(y374), (0), qc_, H', ⟨Nat.le_refl _⟩, ⟨(rw_ (Kd.R_mono HO376.out (fun _ hk => hk.2)))⟩, ⟨(rw_ (Kd.R_mono HO379.out (fun _ hk => hk.2)))⟩, ⟨(kk_ BK373)⟩, ⟨hB_⟩⟩
  case round =>
    clear H'
    obtain ⟨x3_1, x10_1, rfl, HA, HK1, HO_3, HO_8, BK373, HB⟩ := hrel
    cases gk with
    | zero => exact absurd HA.out (by simp [impl_StratumOf.l0])
    | succ k1 =>
      have H := HA.out
      clear HA
      simp only [impl_StratumOf.l0] at H
      by_cases c9 : x10_1 < (t377.length : Int)
      · rw [if_pos c9] at H
        have c9b0 := decide_eq_true c9
        clear c9
        have c10 := cp_ H
        replace H := ca_ H
        have c10b0 := decide_eq_true c10
        clear c10
        have c11 := cp_ H
        replace H := ca_ H
        have c11b0 := decide_eq_true c11
        clear c11
        by_cases c12 : (rd t377 x10_1) > 1
        · rw [if_pos c12] at H
          have c12b0 : decide (1 < (rd t377 x10_1)) = true := decide_eq_true c12
          clear c12
          have c13 := cp_ H
          replace H := ca_ H
          have LMc13 := Aside0.mk c13
          clear c13
          obtain ⟨y381, hy381⟩ : ∃ y_ : List Int, y_ = (x3_1 ++ [wrap64 ((rd t377 x10_1) - 1)]) := ⟨_, rfl⟩
          replace H : (impl_StratumOf.l0 k1 y381 t377 (t377.length : Int) (wrap64 (x10_1 + 1))) = some r := by first | (rw [hy381]; exact H) | exact H
          have Ny381 := Aside0.mk hy381
          clear hy381
          have H' := Aside0.mk H
          clear H
          have p380 : 0 ≤ (x10_1 : Int) := of_decide_eq_true qe_
          have q380 : x10_1 < (t377.length : Int) := of_decide_eq_true qe_
          obtain ⟨ad380, e380, hx380_0⟩ := Kd.at_int (Kd.R_reads' HO_8.out).2.2 x10_1 p380 q380
          cases e380
          replace p380 := eq_true p380
          replace q380 := eq_true q380
          go_wp2_with (first | ((with_reducible refine gate_builtin (b := .append) (xs := #[.tmp 16, .tmp 19]) rfl ?_); at_builtin; refine Kd.R_append (Kd.int .i64) (w0 := w) w.heap.size rfl (.tmp 16) (.tmp 19) 23 3 (.int .i64 0) 8 rfl Try.underlying23 info3 rfl (by decide) (by omega) u3 x3_1 (wrap64 ((rd t377 x10_1) - 1)) [.int .i64 (wrap64 ((rd t377 x10_1) - 1))] (fun k_ => some k_ ≠ (.slice (some ad380) t377.length co8 : Value).ownBlock) (fun _ => False) rfl rfl ?aP (fun _ hk => hk.elim) ?aF ?aO ?aB ?aS ?aL ?_; (case aP => exact rfl); (case aB => exact hB_); (case aF => exact (fun k_ hk => Kd.fresh' (Kd.R_lt (rr_ HO_8)) k_ hk)); (case aO => exact (rr_ HO_3)); (case aS => exact (below_size hB_)); (case aL => have := LMc13.out; omega); intro v382 w14 ho hb hg hat; rw [← Ny381.out] at ho; replace HO_8 := Aside0.mk (Kd.R_after (ok := (fun _ => True)) (rw_ (Kd.R_mono HO_8.out (fun _ hk => ⟨trivial, hk⟩))) hg hat); replace BK373 := Aside0.mk (blk_grown (kk_ BK373) hg (Kd.R_ne HO_3.out BK373.out (by decide))); replace HB := Aside0.mk hb; have HO383 := Aside0.mk ho; clear HO_3; clear ho hb hg hat))
          go_roundg k1
          case measure => have := HK1.out; omega
          case rel => exact ⟨(y381), (wrap64 (x10_1 + 1)), qc_, H', ⟨by have := HK1.out; omega⟩, ⟨(rr_ HO383)⟩, ⟨(rw_ (Kd.R_mono HO_8.out (fun _ hk => hk.2)))⟩, ⟨(kk_ BK373)⟩, ⟨hB_⟩⟩
        · rw [if_neg c12] at H
          have c12b0 : decide (1 < (rd t377 x10_1)) = false := decide_eq_false c12
          clear c12
          have H' := Aside0.mk H
          clear H
          have p380 : 0 ≤ (x10_1 : Int) := of_decide_eq_true qe_
          have q380 : x10_1 < (t377.length : Int) := of_decide_eq_true qe_
          obtain ⟨ad380, e380, hx380_0⟩ := Kd.at_int (Kd.R_reads' HO_8.out).2.2 x10_1 p380 q380
          cases e380
          replace p380 := eq_true p380
          replace q380 := eq_true q380
          go_wp2
          go_roundg k1
          case measure => have := HK1.out; omega
          case rel => exact ⟨(x3_1), (wrap64 (x10_1 + 1)), qc_, H', ⟨by have := HK1.out; omega⟩, ⟨(rr_ HO_3)⟩, ⟨(rr_ HO_8)⟩, ⟨(kk_ BK373)⟩, ⟨hB_⟩⟩
      · rw [if_neg c9] at H
        have c9b0 := decide_eq_false c9
        clear c9
        obtain rfl := Option.some.inj H
        go_wp2
        go_ret
        exact ⟨_, qb_, (rw_ (Kd.R_mono HO_3.out (fun _ hk => trivial))), hB_⟩
end Go.Proofs.Ytoijcallajegfaa.A
end
section
/- Runs of equal lists struck out: the walk of slices.CompactFunc. No conditions. -/
namespace Go.Proofs.Ytoijcallajegfaa.M
set_option linter.unusedVariables false
set_option linter.unusedSimpArgs false
open Go Go.RowKit Go.Proofs.YtoijcallajegfaaW.PrintWords Go.Proofs.YtoijcallajegfaaW.PrintLast Go.Proofs.YtoijcallajegfaaW.PrintMore Go.Shelf Go.Lib Go.Sort Go.Proofs
theorem one_of_len {l : List Value} (h : l.length = 1) : ∃ a, l = [a] := by
  match l, h with
  | [a], _ => exact ⟨a, rfl⟩
theorem swk_cell1 {α : Type} [Inhabited α] {enc : α → List Value} {w0 W : World} {blk off : Nat} {dk d0 : Array α} (h : SWK enc 1 w0 blk off dk W) (R : RowK enc 1 w0 blk off d0) (n : Nat) (os : Array Obj) {i : Nat} (hi : i < dk.size) {a : Value} (hv : enc dk[i]! = [a]) (hs : dk.size = d0.size := by first | rfl | assumption) :
    (grow (W.drewN n) os).cell? ⟨blk, off + i, none⟩ = some a := by
  have hh := (h.grown n os).holds R.hblk R.hH hs
  have h0 := (hh.cell (c := 0) hi (by omega)).1
  rw [hv, Nat.mul_one] at h0
  exact h0
theorem run_clear_one (w : World) (t e ty : TypeId) (ht : Try.prog.underlying t = some (.slice e)) (hv : ∀ w, (zeroValue e).run Try.prog w = .ok (.slice none 0 0) w) (b o n c : Nat) (hn : 0 < n)
    (hc : ∀ j, j < n → (w.cell? ⟨b, o + j, none⟩).isSome = true) (hf : ∀ j, j < n → w.frozen? ⟨b, o + j, none⟩ = false) :
    ∃ vs, (Builtin.clear_ #[t] ty #[.slice (some ⟨b, o, none⟩) n c]).run Try.prog w = .ok (.tuple #[]) (w.setCells b o vs) := by
  obtain ⟨vs, hvs⟩ : ∃ vs, vs = (Builtin.zeroCells (Value.slice none 0 0).cells n).toList := ⟨_, rfl⟩
  have hl : vs.length = n := by rw [hvs]; simp [Builtin.zeroCells, Value.cells]
  have h1 : ∀ v ∈ vs, v.oneCell' = true := by
    intro v hv'
    rw [hvs] at hv'
    simp only [Builtin.zeroCells, Value.cells, Array.toList_map, List.mem_map] at hv'
    obtain ⟨i, _, rfl⟩ := hv'
    have h2 : i % 1 = 0 := by omega
    simp [h2, Value.oneCell']
  have hst := run_storeCells_cells (P := Try.prog) b o vs 0 w (by rw [hl]; simpa using hc) (by rw [hl]; simpa using hf) h1
  simp only [Nat.add_zero] at hst
  refine ⟨vs, ?_⟩
  obtain ⟨m, rfl⟩ : ∃ m, n = m + 1 := ⟨n - 1, by omega⟩
  simp [Builtin.clear_, run_underlying ht, hv, ← hvs, hst]
theorem swk_put1 {α : Type} [Inhabited α] {enc : α → List Value} {w0 W : World} {blk off : Nat} {dk : Array α} (h : SWK enc 1 w0 blk off dk W) (hk : ∀ x, (enc x).length = 1) (hb : blk < w0.heap.size) {i : Nat} (hi : i < dk.size) (x : α) {a : Value} (hx : enc x = [a]) :
    SWK enc 1 w0 blk off (dk.setIfInBounds i x) (W.setCell ⟨blk, off + i, none⟩ a) := by
  obtain ⟨n, os, rfl⟩ := h
  refine ⟨n, os, ?_⟩
  have e0 : (sortWorldK enc 1 w0 blk off n dk os).setCell ⟨blk, off + i, none⟩ a = (sortWorldK enc 1 w0 blk off n dk os).setCells blk (off + i * 1) [a] := by rw [Nat.mul_one]; rfl
  rw [e0]
  unfold sortWorldK
  rw [setCells_grow os blk _ _ _ (by rw [size_putRowK]; exact hb)]
  congr 1
  unfold putRowK
  have hle := rowK_bnd dk 1 i hi
  rw [setCells_putRow _ _ _ _ _ _ (by rw [size_flatK]; simpa using hle), ← hx, setMany_put enc 1 hk dk i x hi]
theorem swk_frozen1 {α : Type} [Inhabited α] {enc : α → List Value} {w0 W : World} {blk off : Nat} {dk d0 : Array α} (h : SWK enc 1 w0 blk off dk W) (R : RowK enc 1 w0 blk off d0) (hs : dk.size = d0.size) {j : Nat} (hj : j < dk.size) :
    (W.cell? ⟨blk, off + j, none⟩).isSome = true ∧ W.frozen? ⟨blk, off + j, none⟩ = false := by
  have hh := h.holds R.hblk R.hH hs
  have := hh j (by rw [size_flatK]; omega)
  exact ⟨by rw [this.1]; rfl, this.2⟩
set_option maxHeartbeats 4000000 in
set_option maxRecDepth 1000000 in
theorem compact_walk1 {α : Type} [Inhabited α] (enc : α → List Value) (eqf : α → α → Bool) (f blk off cap : Nat) (d : Array α) (w : World) (R : RowK enc 1 w blk off d)
    (eg : ∀ args w, (callFunc f args).run Try.prog w = .ok (.enter f args) w)
    (hcmp : ∀ (W : World), (∃ dk : Array α, dk.size = d.size ∧ SWK enc 1 w blk off dk W) → ∀ x y a b, enc x = [a] → enc y = [b] → Calls Try.prog f #[a, b] W fun e w' => e = .returned (.bool (eqf x y)) ∧ ∃ q os', w' = grow (W.drewN q) os')
    (hsl : ∀ x, ∃ A n c, enc x = [.slice A n c]) (h0 : 0 < d.size) (hsz : d.size < 4611686018427387904) (hcap : d.size ≤ cap) :
    Calls Try.prog 55 #[.slice (some ⟨blk, off, none⟩) d.size cap, .func (.func f) #[] #[]] w fun e w' => ∃ kk, e = .returned (.slice (some ⟨blk, off, none⟩) kk cap) ∧ ∃ dk W, CompB eqf d d.size kk dk ∧ SWK enc 1 w blk off dk W ∧ (w' = W ∨ ∃ vs, w' = W.setCells blk (off + kk) vs) := by
  have HS : Aside (SWK enc 1 w blk off d w) := SWK.start R.hH
  have HR : Aside (RowK enc 1 w blk off d) := R
  have HC : Aside _ := hcmp
  clear R hcmp
  have hmix : Try.prog.follows .mixedOrders = true := by kernel_rfl
  go_enter Try.func55, Try.ntmps55
  by_cases h2 : d.size < 2
  · have h2z : (d.size : Int) < 2 := by omega
    go_wp2
    go_ret
    have e1 : d.size = 1 := by omega
    exact ⟨1, by rw [e1]; rfl, d, w, by have := CompB.one (eqf := eqf) h0; rw [e1]; exact this, HS.out, .inl rfl⟩
  · have h2z : ¬ (d.size : Int) < 2 := by omega
    go_wp2
    go_loopg [5] d.size (fun g1 v5 wr => ∃ (kx : Nat), v5 = .int .i64 kx ∧ 1 ≤ kx ∧ kx ≤ d.size ∧ d.size - kx ≤ g1 ∧ Aside (SWK enc 1 w blk off d wr) ∧ Hid (CompB eqf d kx kx d))
    case atStart => exact ⟨1, by go_num, by omega, by omega, by omega, HS, CompB.one h0⟩
    case round =>
      clear HS
      obtain ⟨kx, rfl, hk1, hk2, hg1, S1, hC⟩ := hrel
      by_cases hlt : kx < d.size
      · have hltz : (kx : Int) < (d.size : Int) := by omega
        obtain ⟨kp, rfl⟩ : ∃ kp, kx = kp + 1 := ⟨kx - 1, by omega⟩
        obtain ⟨xk, hxk⟩ : ∃ x, x = d[kp + 1]! := ⟨_, rfl⟩
        obtain ⟨xp, hxp⟩ : ∃ x, x = d[kp]! := ⟨_, rfl⟩
        have pk : (0 : Int) ≤ (kp : Int) + 1 := by omega
        have ek : ((kp : Int) + 1).toNat = kp + 1 := by omega
        have bk : (kp : Int) + 1 < (d.size : Int) := by omega
        have bp : (kp : Int) < (d.size : Int) := by omega
        have wp : IntKind.i64.wrap (kp : Int) = (kp : Int) := by rw [IntKind.wrap_i64]; omega
        obtain ⟨a0, ha⟩ : ∃ a0, enc xk = [a0] := one_of_len (HR.out.hk xk)
        obtain ⟨b0, hb⟩ : ∃ b0, enc xp = [b0] := one_of_len (HR.out.hk xp)
        have lk0 := fun n os => swk_cell1 S1.out HR.out n os (i := kp + 1) (by omega) (by rw [← hxk]; exact ha)
        have lp0 := fun n os => swk_cell1 S1.out HR.out n os (i := kp) (by omega) (by rw [← hxp]; exact hb)
        have hc : ∀ n os, Calls Try.prog f #[a0, b0] (grow (wr.drewN n) os) fun e w' => e = .returned (.bool (eqf xk xp)) ∧ ∃ q os', w' = grow ((grow (wr.drewN n) os).drewN q) os' := fun n os => HC.out _ ⟨d, rfl, S1.out.grown n os⟩ xk xp a0 b0 ha hb
        have hkeep : Hid (keepsB eqf d (kp + 1) = !(eqf xk xp)) := by
          show _ = _
          unfold keepsB
          rw [hxk, hxp]
          simp
        clear hxk hxp
        cases hv : eqf xk xp with
        | false =>
          rw [hv] at hc
          go_wp2_with fail
          go_quiet_grown (first | (go_at_fn f; refine Calls.grown_of (hc _ _)))
          have S2 : Aside (SWK enc 1 w blk off d (grow (wr.drewN nq) osq)) := S1.out.grown nq osq
          clear lk0 lp0 hc S1
          generalize grow (wr.drewN nq) osq = wu2 at S2 ⊢
          clear nq osq
          go_wp2
          go_roundg (d.size - (kp + 1 + 1))
          case measure => omega
          case rel => exact ⟨kp + 1 + 1, by go_num, by omega, by omega, by omega, S2, hC.out.same (by omega) (by rw [hkeep.out, hv]; rfl)⟩
        | true =>
          rw [hv] at hc
          go_wp2_with fail
          go_quiet_grown (first | (go_at_fn f; refine Calls.grown_of (hc _ _)))
          have S2 : Aside (SWK enc 1 w blk off d (grow (wr.drewN nq) osq)) := S1.out.grown nq osq
          clear lk0 lp0 hc S1
          generalize grow (wr.drewN nq) osq = wu2 at S2 ⊢
          clear nq osq
          have hC2 : Hid (CompB eqf d (kp + 1 + 1) (kp + 1) d) := hC.out.skip (by omega) (by rw [hkeep.out, hv]; rfl)
          clear hC
          clear ha hb hkeep hv
          go_wp2
          go_loopg [5, 7] d.size (fun g2 v5 v7 wr2 => ∃ (kk k2 : Nat) (dk : Array α), v5 = .int .i64 kk ∧ v7 = .int .i64 k2 ∧ 1 ≤ k2 ∧ kp + 1 + k2 ≤ d.size ∧ kk < kp + 1 + k2 ∧ d.size - (kp + 1 + k2) ≤ g2 ∧ dk.size = d.size ∧ Aside (SWK enc 1 w blk off dk wr2) ∧ Hid (CompB eqf d (kp + 1 + k2) kk dk))
          case atStart => exact ⟨kp + 1, 1, d, by go_num, by go_num, by omega, by omega, by omega, by omega, rfl, S2, hC2⟩
          case round =>
            clear S2 hC2
            obtain ⟨kk, k2, dk, rfl, rfl, h1, hle, hkk, hg2, hds, S3, hC3⟩ := hrel
            by_cases hlt2 : kp + 1 + k2 < d.size
            · obtain ⟨j, rfl⟩ : ∃ j, k2 = j + 1 := ⟨k2 - 1, by omega⟩
              have hltz2 : (j : Int) + 1 < ((d.size - (kp + 1) : Nat) : Int) := by omega
              obtain ⟨xu, hxu⟩ : ∃ x, x = dk[kp + 1 + (j + 1)]! := ⟨_, rfl⟩
              obtain ⟨xv, hxv⟩ : ∃ x, x = dk[kp + 1 + j]! := ⟨_, rfl⟩
              have p1 : (0 : Int) ≤ (j : Int) + 1 := by omega
              have e1 : ((j : Int) + 1).toNat = j + 1 := by omega
              have w1 : IntKind.i64.wrap (j : Int) = (j : Int) := by rw [IntKind.wrap_i64]; omega
              have p2 : (j : Int) < ((d.size - (kp + 1) : Nat) : Int) := by omega
              obtain ⟨sA_, sn_, sc_, ha⟩ := hsl xu
              obtain ⟨b0, hb⟩ : ∃ b0, enc xv = [b0] := one_of_len (HR.out.hk xv)
              have lk0 := fun n os => swk_cell1 S3.out HR.out n os (i := kp + 1 + (j + 1)) (by omega) (by rw [← hxu]; exact ha) hds
              have lp0 := fun n os => swk_cell1 S3.out HR.out n os (i := kp + 1 + j) (by omega) (by rw [← hxv]; exact hb) hds
              rw [show off + (kp + 1 + (j + 1)) = off + (kp + 1) + (j + 1) by omega] at lk0
              rw [show off + (kp + 1 + j) = off + (kp + 1) + j by omega] at lp0
              have hc : ∀ n os, Calls Try.prog f #[(.slice sA_ sn_ sc_), b0] (grow (wr.drewN n) os) fun e w' => e = .returned (.bool (eqf xu xv)) ∧ ∃ q os', w' = grow ((grow (wr.drewN n) os).drewN q) os' := fun n os => HC.out _ ⟨dk, hds, S3.out.grown n os⟩ xu xv (.slice sA_ sn_ sc_) b0 ha hb
              have hkeep : Hid (keepsB eqf d (kp + 1 + (j + 1)) = !(eqf xu xv)) := by
                show _ = _
                unfold keepsB
                rw [hxu, hxv, hC3.out.high _ (by omega), hC3.out.high _ (by omega), show kp + 1 + (j + 1) - 1 = kp + 1 + j by omega]
                have : (kp + 1 + (j + 1) == 0) = false := by simp
                rw [this, Bool.false_or]
              have hxd : Hid (xu = d[kp + 1 + (j + 1)]!) := by
                show _ = _
                rw [hxu, hC3.out.high _ (by omega)]
              have HA : Hid (enc xu = [(.slice sA_ sn_ sc_)]) := ha
              clear hxu hxv ha hb
              cases hv : eqf xu xv with
              | true =>
                rw [hv] at hc
                go_wp2_with fail
                go_quiet_grown (first | (go_at_fn f; refine Calls.grown_of (hc _ _)))
                have S4 : Aside (SWK enc 1 w blk off dk (grow (wr.drewN nq) osq)) := S3.out.grown nq osq
                clear lk0 lp0 hc S3
                generalize grow (wr.drewN nq) osq = wu2 at S4 ⊢
                clear nq osq
                go_wp2
                go_roundg (d.size - (kp + 1 + (j + 1 + 1)))
                case measure => omega
                case rel => exact ⟨kk, j + 1 + 1, dk, by go_num, by go_num, by omega, by omega, by omega, by omega, hds, S4, hC3.out.skip (by omega) (by rw [hkeep.out, hv]; rfl)⟩
              | false =>
                rw [hv] at hc
                go_wp2_with fail
                go_quiet_grown (first | (go_at_fn f; refine Calls.grown_of (hc _ _)))
                have S4 : Aside (SWK enc 1 w blk off dk (grow (wr.drewN nq) osq)) := S3.out.grown nq osq
                replace lk0 := lk0 nq osq
                clear lp0 hc S3
                generalize grow (wr.drewN nq) osq = wu2 at S4 lk0 ⊢
                clear nq osq
                have s0 := (swk_frozen1 S4.out HR.out hds (j := kk) (by omega))
                obtain ⟨o0, c0⟩ := Option.isSome_iff_exists.1 s0.1
                have f0 := s0.2
                clear s0
                have bk2 : (kk : Int) < (d.size : Int) := by omega
                have S5 : Aside (SWK enc 1 w blk off (dk.setIfInBounds kk xu) (wu2.setCell ⟨blk, off + kk, none⟩ (.slice sA_ sn_ sc_))) := swk_put1 S4.out HR.out.hk HR.out.hblk (by omega) xu HA.out
                go_wp2
                go_roundg (d.size - (kp + 1 + (j + 1 + 1)))
                case measure => omega
                case rel => exact ⟨kk + 1, j + 1 + 1, dk.setIfInBounds kk xu, by go_num, by go_num, by omega, by omega, by omega, by omega, by simpa using hds, S5, by rw [hxd.out]; exact hC3.out.keep (by omega) (by rw [hkeep.out, hv]; rfl)⟩
            · have hend : kp + 1 + k2 = d.size := by omega
              have hltz2 : ¬ (k2 : Int) < ((d.size - (kp + 1) : Nat) : Int) := by omega
              obtain ⟨vs, hcl⟩ := run_clear_one wr 28 23 0 Try.underlying28 Try.zeroValue23 blk (off + kk) (d.size - kk) (cap - kk) (by omega) (fun j hj => by rw [Nat.add_assoc]; exact (swk_frozen1 S3.out HR.out hds (by omega)).1) (fun j hj => by rw [Nat.add_assoc]; exact (swk_frozen1 S3.out HR.out hds (by omega)).2)
              go_wp2
              go_ret
              have hI := hC3.out
              rw [hend] at hI
              exact ⟨kk, rfl, dk, hI, _, S3.out, .inr ⟨vs, rfl⟩⟩
      · have hltz : ¬ (kx : Int) < (d.size : Int) := by omega
        go_wp2
        go_ret
        have e1 : kx = d.size := by omega
        subst e1
        exact ⟨d.size, rfl, d, hC.out, _, S1.out, .inl rfl⟩
end Go.Proofs.Ytoijcallajegfaa.M
end
section
/- Lists of lists of numbers sorted and struck of doubles: what lies in memory. No conditions. -/
namespace Go.Proofs.Ytoijcallajegfaa.M
set_option linter.unusedVariables false
set_option linter.unusedSimpArgs false
open Go Go.RowKit Go.Proofs.YtoijcallajegfaaW.PrintWords Go.Proofs.YtoijcallajegfaaW.PrintLast Go.Proofs.YtoijcallajegfaaW.PrintMore Go.Proofs.Ytoijcallajegfaa.A Go.Sort Go.Shelf Go.Lib Go.Proofs Go.Proofs.YtoijcallajegfaaW.PrintWords.Kd
def toL (x : List Int) : List Nat := x.map Int.toNat
def eqL (x y : List Int) : Bool := decide (toL x = toL y)
theorem ordL : Ord3 NN (fun x y : List Int => lexC (toL x) (toL y)) where
  irr x _ := by rw [(lexC_eq _ _).2 rfl]; omega
  tr x y z _ _ _ h1 h2 := lexC_tr _ _ _ h1 h2
  nt x y z _ _ _ h1 h2 := lexC_le_tr _ _ _ h1 h2
theorem sameL_exact (W : World) (x y : List Int) (cx cy : Value) (hx : NN x) (hy : NN y) (h1 : (Kd.slice 3 (Kd.int .i64)).K W x [cx]) (h2 : (Kd.slice 3 (Kd.int .i64)).K W y [cy]) :
    Calls Try.prog 56 #[cx, cy] W fun e w' => e = .returned (.bool (eqL x y)) ∧ ∃ q os', w' = grow (W.drewN q) os' := by
  obtain ⟨A0, c0, e0, l0, g0⟩ := h1
  obtain ⟨B0, d0, e1, m0, g1⟩ := h2
  obtain rfl := (List.cons.inj e0).1
  obtain rfl := (List.cons.inj e1).1
  obtain ⟨ka, hka⟩ := equal_ev (toL x) (toL y) (by have := hx.2; simp [toL]; omega)
  have ha := hka ka (Nat.le_refl _)
  rw [show I (toL x) = x from NN_I hx, show I (toL y) = y from NN_I hy] at ha
  refine (impl_SameList.calls ka A0 c0 x B0 d0 y _ W g0 l0 g1 m0 ha).mono fun _ _ h => ⟨h.1, ?_⟩
  obtain ⟨n, rfl⟩ := h.2
  exact ⟨n, #[], by rw [grow_empty]⟩
set_option maxHeartbeats 4000000 in
set_option maxRecDepth 100000 in
theorem cmpL_exact (W : World) (x y : List Int) (cx cy : Value) (hx : NN x) (hy : NN y) (h1 : (Kd.slice 3 (Kd.int .i64)).K W x [cx]) (h2 : (Kd.slice 3 (Kd.int .i64)).K W y [cy]) :
    Calls Try.prog 53 #[cx, cy] W fun e w' => e = .returned (.int .i64 (lexC (toL x) (toL y))) ∧ ∃ q os', w' = grow (W.drewN q) os' := by
  obtain ⟨A0, c0, e0, l0, g0⟩ := h1
  obtain ⟨B0, d0, e1, m0, g1⟩ := h2
  obtain rfl := (List.cons.inj e0).1
  obtain rfl := (List.cons.inj e1).1
  obtain ⟨ka, hka⟩ := compare_ev (toL x) (toL y) (by have := hx.2; simpa [toL] using this)
  have ha := hka ka (Nat.le_refl _)
  rw [show I (toL x) = x from NN_I hx, show I (toL y) = y from NN_I hy] at ha
  have HA : Aside (∀ w', Ex W w' → Calls Try.prog 54 #[.slice A0 x.length c0, .slice B0 y.length d0] w' fun e w2 => e = .returned (.int .i64 (lexC (toL x) (toL y))) ∧ ∃ n, w2 = w'.drewN n) := fun w' hw => (slices_Compare_int_int.calls ka A0 c0 x B0 d0 y _ w' (Kd.C_below g0 hw.below) l0 (Kd.C_below g1 hw.below) m0 ha).mono fun _ _ h => ⟨h.1, by obtain ⟨n, rfl⟩ := h.2; exact ⟨n, rfl⟩⟩
  clear ha hka g0 g1 l0 m0 hx hy e0 e1
  generalize lexC (toL x) (toL y) = ra at HA ⊢
  generalize x.length = n0 at HA ⊢
  generalize y.length = n2 at HA ⊢
  go_enter Try.func53, Try.ntmps53
  go_wp2_with (first | (go_at_call 54; (with_reducible refine (HA.out _ ?side).mono ?_); (case side => repeat (first | (with_reducible exact Ex.refl _) | with_reducible apply Ex.alloc | with_reducible apply Ex.drewN | with_reducible apply Ex.drew)); rintro e w' ⟨rfl, n, rfl⟩))
  go_ret
  exact ⟨rfl, by show Ex W _; repeat (first | (with_reducible exact Ex.refl _) | with_reducible apply Ex.alloc | with_reducible apply Ex.drewN | with_reducible apply Ex.drew)⟩
set_option maxHeartbeats 4000000 in
set_option maxRecDepth 100000 in
theorem comp_none1 (A : Option Addr) (c : Nat) (fv : Value) (w : World) : Calls Try.prog 55 #[.slice A 0 c, fv] w fun e w' => e = .returned (.slice A 0 c) ∧ w' = w := by
  go_enter Try.func55, Try.ntmps55
  go_wp2
  go_ret
  exact ⟨rfl, rfl⟩
theorem comp_T1 {w : World} {base : Nat} {ok : Nat → Prop} {v : Value} {f : Nat → Nat} {xs : List (List Int × Nat)} (h : (Kd.tag f (Kd.slice 3 (Kd.int .i64))).R 23 w base ok v xs) (hq : ∀ x ∈ xs, NN x.1) (hsz : xs.length < 4611686018427387904) :
    Calls Try.prog 55 #[v, .func (.func 56) #[] #[]] w fun e w' => ∃ v', e = .returned v' ∧ CompactTo (Kd.tag f (Kd.slice 3 (Kd.int .i64))) (fun p q : List Int × Nat => eqL p.1 q.1) 23 w w' base ok v v' xs := by
  rcases Nat.eq_zero_or_pos xs.length with h0 | hp
  · have hx : xs = [] := List.length_eq_zero_iff.1 h0
    subst hx
    obtain ⟨A, c, rfl⟩ := Kd.R_slice h
    exact (comp_none1 A c _ w).mono fun _ _ ⟨he, hw⟩ => ⟨_, he, by rw [hw]; exact ⟨h, Kept.refl _ _, Go.RowKit.Below.refl _ _⟩⟩
  · obtain ⟨g, cap, cur, rfl, hg0, hb, hgl, hg, hn, hm, hcs, l, hl1, hl2⟩ := R_cells h hq hp
    have hll : l.length = xs.length := by rw [← hl1, List.length_map]
    haveI : Inhabited (Cel (Kd.tag f (Kd.slice 3 (Kd.int .i64))) (fun p : List Int × Nat => NN p.1) w base (fun k => ok k ∧ k ≠ g)) := ⟨l[0]'(by omega)⟩
    have hcs' : xs.length * (Kd.tag f (Kd.slice 3 (Kd.int .i64))).sz ≤ cur.size := by rw [hcs]; exact Nat.mul_le_mul_right _ hn
    have hcs2 : xs.length * 1 ≤ cur.size := hcs'
    have hH := holds_cels hg hll hcs' hl2
    have R : RowK (fun z : Cel (Kd.tag f (Kd.slice 3 (Kd.int .i64))) (fun p : List Int × Nat => NN p.1) w base (fun k => ok k ∧ k ≠ g) => z.c) 1 w g 0 l.toArray := ⟨fun z => z.len, fun z => z.one, hH, hgl⟩
    have key := compact_walk1 (fun z : Cel (Kd.tag f (Kd.slice 3 (Kd.int .i64))) (fun p : List Int × Nat => NN p.1) w base (fun k => ok k ∧ k ≠ g) => z.c) (fun p q => eqL p.x.1 q.x.1) 56 g 0 cap l.toArray w R (enters_of Try.func56 (by kernel_rfl) rfl)
      (fun W hW p q a b ea eb => by
        obtain ⟨dk, hs, m, os, rfl⟩ := hW
        have hh : ∀ (z : Cel (Kd.tag f (Kd.slice 3 (Kd.int .i64))) (fun p : List Int × Nat => NN p.1) w base (fun k => ok k ∧ k ≠ g)), ((Kd.slice 3 (Kd.int .i64))).K (sortWorldK (fun z : Cel (Kd.tag f (Kd.slice 3 (Kd.int .i64))) (fun p : List Int × Nat => NN p.1) w base (fun k => ok k ∧ k ≠ g) => z.c) 1 w g 0 m dk os) z.x.1 z.c := fun z => ((Kd.slice 3 (Kd.int .i64))).K_of_M (z.move (fun k hk hlt => (row_after hg (F := flatK (fun z : Cel (Kd.tag f (Kd.slice 3 (Kd.int .i64))) (fun p : List Int × Nat => NN p.1) w base (fun k => ok k ∧ k ≠ g) => z.c) 1 dk) (by rw [size_flatK, hs]; simpa [hll] using hcs2) rfl).2.1 k hk.2 hlt))
        have h1 := hh p
        have h2 := hh q
        rw [ea] at h1
        rw [eb] at h2
        exact sameL_exact _ p.x.1 q.x.1 a b p.q q.q h1 h2) (fun z => by
        obtain ⟨v_, e_, hr_⟩ : ∃ v_, z.c = [v_] ∧ (Kd.int .i64).R 3 w base _ v_ z.x.1 := z.h
        obtain ⟨A_, c_, rfl⟩ := Kd.R_slice hr_
        exact ⟨A_, _, c_, e_⟩) (by simpa [hll] using hp) (by simpa [hll] using hsz) (by simpa [hll] using hn)
    have hsz' : l.toArray.size = xs.length := by simp [hll]
    rw [hsz'] at key
    refine key.mono ?_
    rintro e' w' ⟨kk, rfl, dk, W, hC, ⟨n, os, hW⟩, hw⟩
    refine ⟨_, rfl, ?_⟩
    rw [← hsz'] at hC
    refine compR_of (D := l.toArray) (dk := dk) (F := flatK (fun z : Cel (Kd.tag f (Kd.slice 3 (Kd.int .i64))) (fun p : List Int × Nat => NN p.1) w base (fun k => ok k ∧ k ≠ g) => z.c) 1 dk) (m := n) (os := os) (W := W) (kk := kk) hC (by simpa using hl1) (flatK_list dk) hW ?_ hg0 hb hgl hg hn hm hcs
    rcases hw with rfl | ⟨vs, rfl⟩
    · exact .inl rfl
    · refine .inr ⟨vs, ?_⟩
      rw [Nat.zero_add]
      show _ = W.setCells g (kk * 1) vs
      rw [Nat.mul_one]
theorem comp_L {w : World} {base : Nat} {ok : Nat → Prop} {v : Value} {xs : List (List Int)} (h : Kd.S (Kd.slice 3 (Kd.int .i64)) 23 w base ok v xs) (hq : ∀ x ∈ xs, NN x) (hsz : xs.length < 4611686018427387904) :
    Calls Try.prog 55 #[v, .func (.func 56) #[] #[]] w fun e w' => ∃ v', e = .returned v' ∧ Kd.S (Kd.slice 3 (Kd.int .i64)) 23 w' base ok v' (cpt eqL xs) ∧ Kept w w' (fun k => some k = v.ownBlock) ∧ Go.RowKit.Below base w w' := by
  obtain ⟨f, hr⟩ := h
  refine (comp_T1 hr (zip_all hq) (by rw [List.length_zipIdx]; exact hsz)).mono ?_
  rintro e w' ⟨v', he, h1, h2, h3⟩
  refine ⟨v', he, ?_, h2, h3⟩
  have h4 := S_of_tag h1 (((cpt_sub _ xs.zipIdx).map (·.2)).nodup (zip_nodup xs))
  have h5 := cpt_map (fun p : List Int × Nat => p.1) eqL xs.zipIdx
  rw [zip_fst] at h5
  rw [h5] at h4
  exact h4
theorem sort_L {w : World} {base : Nat} {ok : Nat → Prop} {v : Value} {xs : List (List Int)} (h : Kd.S (Kd.slice 3 (Kd.int .i64)) 23 w base ok v xs) (hq : ∀ x ∈ xs, NN x) (hsz : xs.length < 4611686018427387904) :
    Calls Try.prog 52 #[v, .func (.func 53) #[] #[]] w fun e w' => e = .returned (.tuple #[]) ∧ SortedToS (Kd.slice 3 (Kd.int .i64)) (fun x y : List Int => lexC (toL x) (toL y)) 23 w w' base ok v xs := by
  obtain ⟨f_, hr⟩ := h
  have hs1 := (sortN1 (d := Kd.tag f_ (Kd.slice 3 (Kd.int .i64))) (Q := fun p : List Int × Nat => NN p.1) (cf := fun p q : List Int × Nat => lexC (toL p.1) (toL q.1)) Try.sortA52 Try.sortB52 rfl ordL.fst 53 (enters_of Try.func53 (by kernel_rfl) rfl)
      (fun W x y cx cy hx hy h1 h2 => cmpL_exact W x.1 y.1 cx cy hx hy h1 h2) hr (zip_all hq) (by rw [List.length_zipIdx]; exact hsz))
  exact hs1.mono (fun e w2 h => ⟨h.1, sortedS_of (cf := fun x y : List Int => lexC (toL x) (toL y)) h.2⟩)
end Go.Proofs.Ytoijcallajegfaa.M
end
section
namespace Go.Proofs.Ytoijcallajegfaa.A
open Go.RowKit Go.Proofs.YtoijcallajegfaaW.PrintWords Go.Proofs.YtoijcallajegfaaW.PrintLast Go.Proofs.YtoijcallajegfaaW.PrintMore
attribute [local go_sem] max2_int min2_int max_two min_two max_three min_three max_four min_four
set_option linter.unusedVariables false
set_option linter.unusedSimpArgs false
def slices_CompactFunc_int_int.f (l0 : List (List Int)) : Option (List (List Int)) := if (∀ x ∈ l0, M.NN x) ∧ l0.length < 4611686018427387904 then some ((M.cpt (fun a b => decide (a = b)) ((l0.map M.toL).mergeSort (fun a b => decide (¬ M.lexC b a < 0)))).map (fun l : List Nat => l.map Int.ofNat)) else none
theorem slices_CompactFunc_int_int.eq (l xs' : List (List Int)) (hq : ∀ x ∈ l, M.NN x) (hp : xs'.Perm l) (hs : xs'.Pairwise (fun a b => ¬ M.lexC (M.toL b) (M.toL a) < 0)) : M.cpt M.eqL xs' = (M.cpt (fun a b => decide (a = b)) ((l.map M.toL).mergeSort (fun a b => decide (¬ M.lexC b a < 0)))).map (fun l : List Nat => l.map Int.ofNat) := by
  have h1 : xs'.map M.toL = (l.map M.toL).mergeSort (fun a b => decide (¬ M.lexC b a < 0)) := by
    refine List.Perm.eq_of_pairwise (le := fun a b => ¬ M.lexC b a < 0) ?_ (by rw [List.pairwise_map]; exact hs) ?_ ((hp.map _).trans (List.mergeSort_perm _ _).symm)
    · intro a b _ _ h1 h2
      have := M.lexC_neg a b
      exact (M.lexC_eq _ _).1 (by omega)
    · have := List.pairwise_mergeSort (le := fun a b => decide (¬ M.lexC b a < 0)) (fun a b c h1 h2 => decide_eq_true (M.lexC_le_tr c b a (of_decide_eq_true h2) (of_decide_eq_true h1))) (fun a b => by
        have := M.lexC_neg a b
        simp only [Bool.or_eq_true, decide_eq_true_eq]
        omega) (l.map M.toL)
      exact this.imp (fun h => of_decide_eq_true h)
  have h2 : (M.cpt M.eqL xs').map M.toL = M.cpt (fun a b => decide (a = b)) (xs'.map M.toL) := M.cpt_map M.toL (fun a b => decide (a = b)) xs'
  have h3 : ((M.cpt M.eqL xs').map M.toL).map (fun l : List Nat => l.map Int.ofNat) = M.cpt M.eqL xs' := by
    rw [List.map_map]
    conv => rhs; rw [← List.map_id (M.cpt M.eqL xs')]
    apply List.map_congr_left
    intro x hx
    exact M.NN_I (hq x (hp.mem_iff.1 ((M.cpt_sub M.eqL xs').subset hx)))
  rw [← h3, h2, h1]
theorem slices_CompactFunc_int_int.ok {l0 r : List (List Int)} (h : slices_CompactFunc_int_int.f l0 = some r) : ((∀ x ∈ l0, M.NN x) ∧ l0.length < 4611686018427387904) ∧ ∀ xs' : List (List Int), xs'.Perm l0 → xs'.Pairwise (fun a b => ¬ M.lexC (M.toL b) (M.toL a) < 0) → M.cpt M.eqL xs' = r := by
  unfold slices_CompactFunc_int_int.f at h
  split at h
  · rename_i hq
    obtain rfl := Option.some.inj h
    exact ⟨hq, fun xs' hp hs => slices_CompactFunc_int_int.eq l0 xs' hq.1 hp hs⟩
  · cases h
end Go.Proofs.Ytoijcallajegfaa.A
end
section
namespace Go.Proofs.Ytoijcallajegfaa.A
open Go.RowKit Go.Proofs.YtoijcallajegfaaW.PrintWords Go.Proofs.YtoijcallajegfaaW.PrintLast Go.Proofs.YtoijcallajegfaaW.PrintMore
attribute [local go_sem] max2_int min2_int max_two min_two max_three min_three max_four min_four
set_option linter.unusedVariables false
set_option linter.unusedSimpArgs false
def impl_StrataWith.l0 : Nat → List (List Int) → List (S33) → Int → Int → Option ((List (List Int)))
  | 0, _, _, _, _ => none
  | k + 1, x3, x8, x9, x10 => if x10 < x9 then (if 0 ≤ x10 then (if x10 < (x8.length : Int) then ((impl_StratumOf.f k ((rd_T33 x8 x10).f0) ((rd_T33 x8 x10).f1)).bind fun t392 => (if x3.length < 5864062014805 then (impl_StrataWith.l0 k (x3 ++ [t392]) x8 x9 (wrap64 (x10 + 1))) else (none))) else (none)) else (none)) else ((slices_CompactFunc_int_int.f x3).bind fun t398 => (some t398))
def impl_StrataWith.f (k : Nat) (a0 : Int) : Option ((List (List Int))) := (impl_SurfacesWith.f k a0).bind fun t387 => (impl_StrataWith.l0 k (([] : List (List Int))) t387 (t387.length : Int) 0)
theorem impl_StrataWith.mono_l : ∀ k, (∀ y0 y1 y2 y3, LeO (impl_StrataWith.l0 k y0 y1 y2 y3) (impl_StrataWith.l0 (k + 1) y0 y1 y2 y3))
  | 0 => fun _ _ _ _ r h => by simp [impl_StrataWith.l0] at h
  | k + 1 => by
    have ih0 := impl_StrataWith.mono_l k
    · intro y0 y1 y2 y3
      unfold impl_StrataWith.l0
      repeat' first|exact ih0 _ _ _ _|exact impl_StratumOf.mono _ _ _|exact impl_SurfacesWith.mono _ _|exact lo_|refine LeO.ite ?_ ?_|refine LeO.bind ?_ (fun _ => ?_)
theorem impl_StrataWith.mono : ∀ a0 k, LeO (impl_StrataWith.f k a0) (impl_StrataWith.f (k + 1) a0) := by
  intro a0 k
  have ih0 := impl_StrataWith.mono_l k
  unfold impl_StrataWith.f
  repeat' first|exact ih0 _ _ _ _|exact impl_StratumOf.mono _ _ _|exact impl_SurfacesWith.mono _ _|exact lo_|refine LeO.ite ?_ ?_|refine LeO.bind ?_ (fun _ => ?_)
set_option maxHeartbeats 8000000 in
set_option maxRecDepth 100000 in
theorem impl_StrataWith.calls (k : Nat) (a0 : Int) (r : List (List Int)) (w : World) (h : impl_StrataWith.f k a0 = some r) :
    Calls Try.prog 14 #[.int .i64 a0] w fun e w' => ∃ v0_ : Value, e = .returned (v0_) ∧ Kd.S (Kd.slice 3 (Kd.int .i64)) 23 w' w.heap.size (fun _ => True) v0_ r ∧ Below w.heap.size w w' := by
  have hu33 := Try.underlying33
  have HB := Aside0.mk (Below.refl w.heap.size w)
  have H := h
  unfold impl_StrataWith.f at H
  clear h
  obtain ⟨y384, hy384⟩ : ∃ y_ : List (List Int), y_ = (([] : List (List Int))) := ⟨_, rfl⟩
  replace H : ((impl_SurfacesWith.f k a0).bind fun t387 => (impl_StrataWith.l0 k y384 t387 (t387.length : Int) 0)) = some r := by first | (rw [hy384]; exact H) | exact H
  have Ny384 := Aside0.mk hy384
  clear hy384
  obtain ⟨t387, A2, H⟩ := bi_ H
  have H' := Aside0.mk H
  clear H
  go_enter Try.func14, Try.ntmps14
  go_wp2_with (first | ((with_reducible refine gate_dst (N := 6) rfl ?_); refine Kd.S_lit (Kd.slice 3 (Kd.int .i64)) _ 23 ?hg (N := 6) ?hd (xs := ([] : List (List Int))) (inner := []) (ok := fun _ => True) (okp := fun _ => True) ?hr ?hp (fun _ hk => hk) trivial (Below.refl _ _) (Nat.le_refl _) (by simp) ?_; (case hd => rfl); (case hg => rfl); (case hr => first | (go_simp; done) | (go_simp; rfl)); (case hp => exact (Reps.none _ _)); intro v385 w3 ho4 hb hg_ hnew_; clear hg_ hnew_; (first | rw [← Ny384.out] at ho4 | (simp only [Int.reduceToNat] at ho4; rw [← Ny384.out] at ho4)); have HO386 := Aside0.mk (Kd.S_lower ho4 (below_size hB_)); replace HB := b1_ hb; clear hb ho4) | ((with_reducible refine gate_callee (f := 12) rfl ?_); refine gL_ (some 8) Try.func12 #[.int .i64 a0] rfl qa_ ?_; (with_reducible refine (impl_SurfacesWith.calls k a0 t387 _ A2.out).mono ?_); rintro e w5 ⟨v388, rfl, ho0, hb⟩; refine ⟨_, rfl, ?_⟩; replace HO386 := sb_ HO386 hb; have HO389 := Aside0.mk (Kd.S_lower ho0 (below_size hB_)); replace HB := b1_ hb; clear hb ho0; obtain ⟨Ao6, co6, eo6⟩ := Kd.S_slice HO389.out; subst eo6))
  go_loopg [3, 10] k (fun kq v3 v10 w' => ∃ (x3_1 : List (List Int)) (x10_1 : Int), v10 = .int .i64 x10_1 ∧ Aside0 (impl_StrataWith.l0 kq x3_1 t387 (t387.length : Int) x10_1 = some r) ∧ Aside0 (kq ≤ k) ∧ Aside0 (Kd.S (Kd.slice 3 (Kd.int .i64)) 23 w' w.heap.size (fun _ => True) v3 x3_1) ∧ Aside0 (Kd.S k33 33 w' w.heap.size (fun _ => True) (.slice Ao6 t387.length co6) t387) ∧ Aside0 (Below w.heap.size w w'))
  case atStart => exact ⟨(y384), (0), qc_, H', ⟨Nat.le_refl _⟩, ⟨(ss_ HO386)⟩, ⟨(ss_ HO389)⟩, ⟨hB_⟩⟩
  case round =>
    clear H'
    obtain ⟨x3_1, x10_1, rfl, HA, HK1, HO_3, HO_8, HB⟩ := hrel
    cases gk with
    | zero => exact absurd HA.out (by simp [impl_StrataWith.l0])
    | succ k1 =>
      have H := HA.out
      clear HA
      simp only [impl_StrataWith.l0] at H
      by_cases c7 : x10_1 < (t387.length : Int)
      · rw [if_pos c7] at H
        have c7b0 := decide_eq_true c7
        clear c7
        have c8 := cp_ H
        replace H := ca_ H
        have c8b0 := decide_eq_true c8
        clear c8
        have c9 := cp_ H
        replace H := ca_ H
        have c9b0 := decide_eq_true c9
        clear c9
        obtain ⟨t392, A10, H⟩ := bi_ H
        have c11 := cp_ H
        replace H := ca_ H
        have LMc11 := Aside0.mk c11
        clear c11
        obtain ⟨y395, hy395⟩ : ∃ y_ : List (List Int), y_ = (x3_1 ++ [t392]) := ⟨_, rfl⟩
        replace H : (impl_StrataWith.l0 k1 y395 t387 (t387.length : Int) (wrap64 (x10_1 + 1))) = some r := by first | (rw [hy395]; exact H) | exact H
        have Ny395 := Aside0.mk hy395
        clear hy395
        have H' := Aside0.mk H
        clear H
        have p390 : 0 ≤ (x10_1 : Int) := of_decide_eq_true qe_
        have q390 : x10_1 < (t387.length : Int) := of_decide_eq_true qe_
        obtain ⟨ad390, A390_0, c390_0, A390_1, c390_1, e390, hx390_0, hx390_1, hl390_0, hi390_0, hl390_1, hi390_1⟩ := at_T33 (Kd.S_reads' HO_8.out).2.2 x10_1 p390 q390
        cases e390
        obtain ⟨ce390, hce390, hMe390, hcc390⟩ := Kd.S_get HO_8.out z33 x10_1 p390 (by first | exact q390 | exact of_decide_eq_true qe_ | (have e_ := (Kd.S_reads' HO_8.out).1; omega))
        obtain ⟨ve390_0, ve390_1, rfl, ge390_0, ge390_1⟩ := k33_openM hMe390
        have hv390_0 := hcc390 0 _ rfl
        rw [Nat.add_zero] at hv390_0
        replace hv390_0 := Option.some.inj (hv390_0.symm.trans hx390_0)
        rw [hv390_0] at ge390_0
        have HL390_0 := Aside0.mk (show Kd.R (Kd.int .i64) 3 _ _ _ _ ((rd_T33 t387 x10_1).f0) from ge390_0)
        clear hv390_0 ge390_0
        have hv390_1 := hcc390 1 _ rfl
        rw [add_field _ _ 1 (by omega)] at hv390_1
        replace hv390_1 := Option.some.inj (hv390_1.symm.trans hx390_1)
        rw [hv390_1] at ge390_1
        have HL390_1 := Aside0.mk (show Kd.R (Kd.int .i64) 3 _ _ _ _ ((rd_T33 t387 x10_1).f1) from ge390_1)
        clear hv390_1 ge390_1
        clear hcc390 hce390
        have HR390_0 := Aside0.mk hi390_0
        have HC390_0 := Aside0.mk hl390_0
        clear hi390_0 hl390_0
        have HR390_1 := Aside0.mk hi390_1
        have HC390_1 := Aside0.mk hl390_1
        clear hi390_1 hl390_1
        replace p390 := eq_true p390
        replace q390 := eq_true q390
        go_wp2_with (first | ((with_reducible refine gate_dst (N := 5) rfl ?_); refine bx_ 5 #[.slice none 0 0, .slice none 0 0] 33 ?_; intro gb391 hg w12 hbox hb; replace HO_3 := sb_ HO_3 hb; replace HO_8 := Aside0.mk (Kd.S_below (Kd.S_elderB (ss_ HO_8) gb391 (Nat.le_of_eq hg.symm)) hb); replace HL390_0 := rb_ HL390_0 hb; replace HL390_1 := rb_ HL390_1 hb; replace HR390_0 := Aside0.mk (Kd.C_below (by repeat (first | (with_reducible exact HR390_0.out) | (with_reducible refine Kd.C_alloc ?_ _) | (with_reducible refine Kd.C_drewN ?_ _) | (with_reducible refine Kd.C_drew ?_) | exact HR390_0.out)) hb); replace HR390_1 := Aside0.mk (Kd.C_below (by repeat (first | (with_reducible exact HR390_1.out) | (with_reducible refine Kd.C_alloc ?_ _) | (with_reducible refine Kd.C_drewN ?_ _) | (with_reducible refine Kd.C_drew ?_) | exact HR390_1.out)) hb); have BK391 := Aside0.mk hbox; have GW391 := gw_ w hg; have GE391 := GW391; replace HB := b1_ hb; clear hb hbox hg; obtain ⟨hcz13_0, hcz13_1, hfz13_0, hfz13_1⟩ := c2_ BK391) | ((with_reducible refine gate_callee (f := 26) rfl ?_); refine gL_ (some 16) Try.func26 #[.agg #[.slice A390_0 ((rd_T33 t387 x10_1).f0).length c390_0, .slice A390_1 ((rd_T33 t387 x10_1).f1).length c390_1]] rfl qa_ ?_; (with_reducible refine (impl_StratumOf.calls k1 _ _ ((rd_T33 t387 x10_1).f0) _ _ ((rd_T33 t387 x10_1).f1) t392 _ ?side1 ?side2 ?side3 ?side4 A10.out).mono ?_); (case side1 => repeat (first | exact ((Kd.R_reads' (rw_ (Kd.R_mono (Kd.R_far (p := ⟨gb391, 1, none⟩) (Kd.R_far (p := ⟨gb391, 0, none⟩) (Kd.R_types HL390_0.out BK391.out (by decide)) (fun _ hk => hk.2) (.slice A390_0 ((rd_T33 t387 x10_1).f0).length c390_0)) (fun _ hk => hk.2) (.slice A390_1 ((rd_T33 t387 x10_1).f1).length c390_1)) (fun _ h_ => h_.1)))).2.2) | (with_reducible refine Kd.C_alloc ?_ _) | (with_reducible refine Kd.C_drewN ?_ _) | (with_reducible refine Kd.C_drew ?_))); (case side2 => exact HC390_0.out); (case side3 => repeat (first | exact ((Kd.R_reads' (rw_ (Kd.R_mono (Kd.R_far (p := ⟨gb391, 1, none⟩) (Kd.R_far (p := ⟨gb391, 0, none⟩) (Kd.R_types HL390_1.out BK391.out (by decide)) (fun _ hk => hk.2) (.slice A390_0 ((rd_T33 t387 x10_1).f0).length c390_0)) (fun _ hk => hk.2) (.slice A390_1 ((rd_T33 t387 x10_1).f1).length c390_1)) (fun _ h_ => h_.1)))).2.2) | (with_reducible refine Kd.C_alloc ?_ _) | (with_reducible refine Kd.C_drewN ?_ _) | (with_reducible refine Kd.C_drew ?_))); (case side4 => exact HC390_1.out); rintro e w14 ⟨v393, rfl, ho0, hb⟩; refine ⟨_, rfl, ?_⟩; replace HO_3 := Aside0.mk (Kd.S_elder' (sw_ (Kd.S_mono (Kd.S_far (p := ⟨gb391, 1, none⟩) (Kd.S_far (p := ⟨gb391, 0, none⟩) (Kd.S_types HO_3.out BK391.out (by decide)) (fun _ hk => hk.2) (.slice A390_0 ((rd_T33 t387 x10_1).f0).length c390_0)) (fun _ hk => hk.2) (.slice A390_1 ((rd_T33 t387 x10_1).f1).length c390_1)) (fun _ h_ => h_.1))) (Kd.R_base ho0) hb); replace HO_8 := Aside0.mk (Kd.S_elder' (sw_ (Kd.S_mono (Kd.S_far (p := ⟨gb391, 1, none⟩) (Kd.S_far (p := ⟨gb391, 0, none⟩) (Kd.S_mono HO_8.out (fun k_ hk => (⟨hk, hk.2⟩ : _ ∧ k_ ≠ gb391))) (fun _ hk => hk.2) (.slice A390_0 ((rd_T33 t387 x10_1).f0).length c390_0)) (fun _ hk => hk.2) (.slice A390_1 ((rd_T33 t387 x10_1).f1).length c390_1)) (fun _ h_ => h_.1))) (Kd.R_base ho0) hb); have HO394 := Aside0.mk (Kd.R_lower (Kd.R_new' (Kd.R_new' ho0 (Kd.R_lt (rw_ (Kd.R_mono (Kd.R_far (p := ⟨gb391, 1, none⟩) (Kd.R_far (p := ⟨gb391, 0, none⟩) (Kd.R_types HL390_0.out BK391.out (by decide)) (fun _ hk => hk.2) (.slice A390_0 ((rd_T33 t387 x10_1).f0).length c390_0)) (fun _ hk => hk.2) (.slice A390_1 ((rd_T33 t387 x10_1).f1).length c390_1)) (fun _ h_ => h_.1))))) (Kd.R_lt (rw_ (Kd.R_mono (Kd.R_far (p := ⟨gb391, 1, none⟩) (Kd.R_far (p := ⟨gb391, 0, none⟩) (Kd.R_types HL390_1.out BK391.out (by decide)) (fun _ hk => hk.2) (.slice A390_0 ((rd_T33 t387 x10_1).f0).length c390_0)) (fun _ hk => hk.2) (.slice A390_1 ((rd_T33 t387 x10_1).f1).length c390_1)) (fun _ h_ => h_.1))))) (below_size hB_)); replace HR390_0 := Aside0.mk (Kd.C_below ((Kd.R_reads' (rw_ (Kd.R_mono (Kd.R_far (p := ⟨gb391, 1, none⟩) (Kd.R_far (p := ⟨gb391, 0, none⟩) (Kd.R_types HL390_0.out BK391.out (by decide)) (fun _ hk => hk.2) (.slice A390_0 ((rd_T33 t387 x10_1).f0).length c390_0)) (fun _ hk => hk.2) (.slice A390_1 ((rd_T33 t387 x10_1).f1).length c390_1)) (fun _ h_ => h_.1)))).2.2) hb); replace HL390_0 := Aside0.mk (Kd.R_elder' (rw_ (Kd.R_mono (Kd.R_far (p := ⟨gb391, 1, none⟩) (Kd.R_far (p := ⟨gb391, 0, none⟩) (Kd.R_types HL390_0.out BK391.out (by decide)) (fun _ hk => hk.2) (.slice A390_0 ((rd_T33 t387 x10_1).f0).length c390_0)) (fun _ hk => hk.2) (.slice A390_1 ((rd_T33 t387 x10_1).f1).length c390_1)) (fun _ h_ => h_.1))) (Kd.R_base ho0) hb); replace HR390_1 := Aside0.mk (Kd.C_below ((Kd.R_reads' (rw_ (Kd.R_mono (Kd.R_far (p := ⟨gb391, 1, none⟩) (Kd.R_far (p := ⟨gb391, 0, none⟩) (Kd.R_types HL390_1.out BK391.out (by decide)) (fun _ hk => hk.2) (.slice A390_0 ((rd_T33 t387 x10_1).f0).length c390_0)) (fun _ hk => hk.2) (.slice A390_1 ((rd_T33 t387 x10_1).f1).length c390_1)) (fun _ h_ => h_.1)))).2.2) hb); replace HL390_1 := Aside0.mk (Kd.R_elder' (rw_ (Kd.R_mono (Kd.R_far (p := ⟨gb391, 1, none⟩) (Kd.R_far (p := ⟨gb391, 0, none⟩) (Kd.R_types HL390_1.out BK391.out (by decide)) (fun _ hk => hk.2) (.slice A390_0 ((rd_T33 t387 x10_1).f0).length c390_0)) (fun _ hk => hk.2) (.slice A390_1 ((rd_T33 t387 x10_1).f1).length c390_1)) (fun _ h_ => h_.1))) (Kd.R_base ho0) hb); replace BK391 := Aside0.mk (blk_below (g := gb391) (o := .cells #[.slice A390_0 ((rd_T33 t387 x10_1).f0).length c390_0, .slice A390_1 ((rd_T33 t387 x10_1).f1).length c390_1] 33 (0, 0)) qp_ hb); replace HB := b1_ hb; clear hb ho0; obtain ⟨Ao16, co16, eo16⟩ := Kd.R_slice HO394.out; subst eo16) | ((with_reducible refine gate_builtin (b := .append) (xs := #[.tmp 14, .tmp 17]) rfl ?_); at_builtin; refine Kd.S_append (Kd.slice 3 (Kd.int .i64)) (w0 := w) w.heap.size rfl (.tmp 14) (.tmp 17) 28 23 (.slice none 0 0) 24 rfl Try.underlying28 info23 rfl (by decide) (by omega) u3 x3_1 t392 [.slice Ao16 t392.length co16] (fun _ => True) (fun k_ => some k_ = (.slice Ao16 t392.length co16 : Value).ownBlock) rfl rfl ?aP (fun k_ hk_ => ((Kd.R_mono (ok' := fun k_ => ((fun _ => True)) k_ ∧ some k_ ≠ (u3 : Value).ownBlock) (Kd.R_apart' (HO394.out) (Kd.S_typed HO_3.out) (by decide)) (fun k_ hk => ⟨trivial, hk.2⟩))).1 k_ hk_.symm) ?aF ?aO ?aB ?aS ?aL ?_; (case aP => exact Kd.M_row (Kd.R_mono (Kd.R_tight rfl (Kd.R_mono (ok' := fun k_ => ((fun _ => True)) k_ ∧ some k_ ≠ (u3 : Value).ownBlock) (Kd.R_apart' (HO394.out) (Kd.S_typed HO_3.out) (by decide)) (fun k_ hk => ⟨trivial, hk.2⟩))) (fun _ h_ => h_))); (case aB => exact hB_); (case aF => exact (fun _ _ => trivial)); (case aO => exact (sw_ (Kd.S_mono HO_3.out (fun k_ hk => ⟨trivial, fun e_ => hk.2 e_⟩)))); (case aS => exact (below_size hB_)); (case aL => have := LMc11.out; omega); intro v396 w15 ho hb hg hat; rw [← Ny395.out] at ho; replace HO_8 := Aside0.mk (Kd.S_over' (ss_ HO_8) (Kd.S_typed (ss_ HO_3)) (by decide) hg); replace HL390_0 := Aside0.mk (Kd.R_over' (rr_ HL390_0) (Kd.S_typed (ss_ HO_3)) (by decide) hg); replace HL390_1 := Aside0.mk (Kd.R_over' (rr_ HL390_1) (Kd.S_typed (ss_ HO_3)) (by decide) hg); replace BK391 := Aside0.mk (blk_grown (kk_ BK391) hg (Kd.S_ne HO_3.out BK391.out (by decide))); replace HB := Aside0.mk hb; have HO397 := Aside0.mk ho; clear HO_3 HO394; clear ho hb hg hat))
        go_roundg k1
        case measure => have := HK1.out; omega
        case rel => exact ⟨(y395), (wrap64 (x10_1 + 1)), qc_, H', ⟨by have := HK1.out; omega⟩, ⟨(ss_ HO397)⟩, ⟨(sw_ (Kd.S_mono HO_8.out (fun _ hk => trivial)))⟩, ⟨hB_⟩⟩
      · rw [if_neg c7] at H
        have c7b0 := decide_eq_false c7
        clear c7
        obtain ⟨t398, A17, H⟩ := bi_ H
        obtain rfl := Option.some.inj H
        obtain ⟨Ao18, co18, eo18⟩ := Kd.S_slice HO_3.out
        subst eo18
        have HE := Aside0.mk (slices_CompactFunc_int_int.ok A17.out)
        have HSo := Aside0.mk (M.sort_L HO_3.out HE.out.1.1 HE.out.1.2)
        go_wp2_with (first | (go_at_call 52; (with_reducible refine HSo.out.mono ?_); rintro e w1 ⟨rfl, xs', hp, hs, hN, hK, hB1⟩; have HP := Aside0.mk hp; have HO := Aside0.mk hs; have HN := Aside0.mk hN; have HB1 := Aside0.mk hB1; clear hp hs hN hK hB1) | (go_at_call 55; (refine (M.comp_L HN.out (fun x hx => HE.out.1.1 x (HP.out.mem_iff.1 hx)) (by rw [HP.out.length_eq]; exact HE.out.1.2)).mono ?_); rintro e w2 ⟨v', rfl, hC, hK2, hB2⟩; have HC := Aside0.mk hC; have HB2 := Aside0.mk hB2; clear hC hK2 hB2))
        go_ret
        refine ⟨_, rfl, ?_, HB.out.trans (HB1.out.trans HB2.out)⟩
        rw [← HE.out.2 xs' HP.out HO.out]
        exact Kd.S_mono HC.out (fun _ _ => trivial)
end Go.Proofs.Ytoijcallajegfaa.A
end
section
namespace Go.Proofs.Ytoijcallajegfaa.A
open Go.RowKit Go.Proofs.YtoijcallajegfaaW.PrintWords Go.Proofs.YtoijcallajegfaaW.PrintLast Go.Proofs.YtoijcallajegfaaW.PrintMore
attribute [local go_sem] max2_int min2_int max_two min_two max_three min_three max_four min_four
set_option linter.unusedVariables false
set_option linter.unusedSimpArgs false
def impl_SurfacesIn.l0 : Nat → List Int → List (S33) → List (S33) → Int → Int → Option ((List (S33)))
  | 0, _, _, _, _, _ => none
  | k + 1, x1, x5, x10, x11, x12 => if x12 < x11 then (if 0 ≤ x12 then (if x12 < (x10.length : Int) then ((impl_StratumOf.f k ((rd_T33 x10 x12).f0) ((rd_T33 x10 x12).f1)).bind fun t409 => ((impl_SameList.f k t409 x1).bind fun t412 => (if t412 = true then (if x5.length < 2932031007402 then (impl_SurfacesIn.l0 k x1 (x5 ++ [(⟨(rd_T33 x10 x12).f0, (rd_T33 x10 x12).f1⟩ : S33)]) x10 x11 (wrap64 (x12 + 1))) else (none)) else (impl_SurfacesIn.l0 k x1 x5 x10 x11 (wrap64 (x12 + 1)))))) else (none)) else (none)) else (some x5)
def impl_SurfacesIn.f (k : Nat) (a0 : Int) (l1 : List Int) : Option ((List (S33))) := (impl_SurfacesWith.f k a0).bind fun t404 => (impl_SurfacesIn.l0 k l1 (([] : List (S33))) t404 (t404.length : Int) 0)
theorem impl_SurfacesIn.mono_l : ∀ k, (∀ y0 y1 y2 y3 y4, LeO (impl_SurfacesIn.l0 k y0 y1 y2 y3 y4) (impl_SurfacesIn.l0 (k + 1) y0 y1 y2 y3 y4))
  | 0 => fun _ _ _ _ _ r h => by simp [impl_SurfacesIn.l0] at h
  | k + 1 => by
    have ih0 := impl_SurfacesIn.mono_l k
    · intro y0 y1 y2 y3 y4
      unfold impl_SurfacesIn.l0
      repeat' first|exact ih0 _ _ _ _ _|exact impl_SameList.mono _ _ _|exact impl_StratumOf.mono _ _ _|exact impl_SurfacesWith.mono _ _|exact lo_|refine LeO.ite ?_ ?_|refine LeO.bind ?_ (fun _ => ?_)
theorem impl_SurfacesIn.mono : ∀ a0 a1 k, LeO (impl_SurfacesIn.f k a0 a1) (impl_SurfacesIn.f (k + 1) a0 a1) := by
  intro a0 a1 k
  have ih0 := impl_SurfacesIn.mono_l k
  unfold impl_SurfacesIn.f
  repeat' first|exact ih0 _ _ _ _ _|exact impl_SameList.mono _ _ _|exact impl_StratumOf.mono _ _ _|exact impl_SurfacesWith.mono _ _|exact lo_|refine LeO.ite ?_ ?_|refine LeO.bind ?_ (fun _ => ?_)
set_option maxHeartbeats 8000000 in
set_option maxRecDepth 100000 in
theorem impl_SurfacesIn.calls (k : Nat) (a0 : Int) (A1 : Option Addr) (c1 : Nat) (l1 : List Int) (r : List (S33)) (w : World) (hr1 : Kd.C (Kd.int .i64) w A1 l1.length l1) (hc1 : l1.length ≤ c1) (h : impl_SurfacesIn.f k a0 l1 = some r) :
    Calls Try.prog 15 #[.int .i64 a0, .slice A1 l1.length c1] w fun e w' => ∃ v0_ : Value, e = .returned (v0_) ∧ Kd.N k33 33 w' w.heap.size (fun k_ => (w.heap.size ≤ k_)) v0_ r ∧ Below w.heap.size w w' := by
  have hu33 := Try.underlying33
  have HR1 := Aside0.mk hr1
  have HC1 := Aside0.mk hc1
  clear hr1 hc1
  have HB := Aside0.mk (Below.refl w.heap.size w)
  have H := h
  unfold impl_SurfacesIn.f at H
  clear h
  obtain ⟨y401, hy401⟩ : ∃ y_ : List (S33), y_ = (([] : List (S33))) := ⟨_, rfl⟩
  replace H : ((impl_SurfacesWith.f k a0).bind fun t404 => (impl_SurfacesIn.l0 k l1 y401 t404 (t404.length : Int) 0)) = some r := by first | (rw [hy401]; exact H) | exact H
  have Ny401 := Aside0.mk hy401
  clear hy401
  obtain ⟨t404, A3, H⟩ := bi_ H
  have H' := Aside0.mk H
  clear H
  go_enter Try.func15, Try.ntmps15
  go_wp2_with (first | ((with_reducible refine gate_dst (N := 8) rfl ?_); refine Kd.N_lit k33 _ 33 ?hg (N' := 8) ?hd (xs := ([] : List (S33))) (inner := []) (ok := (fun k_ => (w.heap.size ≤ k_))) (okp := (fun k_ => (w.heap.size ≤ k_))) ?hr ?hp (fun _ hk => hk) ((show ∀ k_, w.heap.size ≤ k_ → (fun k_ => (w.heap.size ≤ k_)) k_ from fun k_ hk => (Nat.le_trans (below_size hB_) hk)) _ (Nat.le_refl _)) (Below.refl _ _) (Nat.le_refl _) (by simp) ?_; (case hd => rfl); (case hg => rfl); (case hr => first | (go_simp; done) | (go_simp; rfl)); (case hp => exact (Reps.none _ _)); intro v402 w4 ho5 hb hg_ hnew_; clear hg_ hnew_; (first | rw [← Ny401.out] at ho5 | (simp only [Int.reduceToNat] at ho5; rw [← Ny401.out] at ho5)); have HO403 := Aside0.mk (Kd.N_lower ho5 (below_size hB_)); replace HB := b1_ hb; clear hb ho5) | ((with_reducible refine gate_callee (f := 12) rfl ?_); refine gL_ (some 10) Try.func12 #[.int .i64 a0] rfl qa_ ?_; (with_reducible refine (impl_SurfacesWith.calls k a0 t404 _ A3.out).mono ?_); rintro e w6 ⟨v405, rfl, ho0, hb⟩; refine ⟨_, rfl, ?_⟩; have HO406 := Aside0.mk (Kd.N_lower (Kd.N_mono (ok' := fun k_ => (w.heap.size ≤ k_) ∧ some k_ ≠ (v402 : Value).ownBlock) (Kd.S_N (Kd.S_bound ho0)) (fun k_ hk_ => ⟨(Nat.le_trans (below_size hB_) hk_.2.1), (Kd.fresh' (Kd.N_lt (by (with_reducible repeat (first | apply Kd.N_alloc | apply Kd.N_drewN | apply Kd.N_drew)); exact HO403.out)) k_ hk_.2.1)⟩)) (below_size hB_)); replace HO403 := Aside0.mk (Kd.N_elder' (by (with_reducible repeat (first | apply Kd.N_alloc | apply Kd.N_drewN | apply Kd.N_drew)); exact HO403.out) (Kd.S_base ho0) hb); replace HB := b1_ hb; clear hb ho0; obtain ⟨Ao7, co7, eo7⟩ := Kd.N_slice HO406.out; subst eo7))
  go_loopg [5, 12] k (fun kq v5 v12 w' => ∃ (x5_1 : List (S33)) (x12_1 : Int), v12 = .int .i64 x12_1 ∧ Aside0 (impl_SurfacesIn.l0 kq l1 x5_1 t404 (t404.length : Int) x12_1 = some r) ∧ Aside0 (kq ≤ k) ∧ Aside0 (Kd.N k33 33 w' w.heap.size (fun k_ => (w.heap.size ≤ k_) ∧ some k_ ≠ ((.slice Ao7 t404.length co7) : Value).ownBlock) v5 x5_1) ∧ Aside0 (Kd.N k33 33 w' w.heap.size (fun k_ => (w.heap.size ≤ k_) ∧ some k_ ≠ (v5 : Value).ownBlock) (.slice Ao7 t404.length co7) t404) ∧ Aside0 (Below w.heap.size w w'))
  case atStart => exact ⟨(y401), (0), qc_, H', ⟨Nat.le_refl _⟩, ⟨by (with_reducible repeat (first | apply Kd.N_alloc | apply Kd.N_drewN | apply Kd.N_drew)); exact HO403.out⟩, ⟨by (with_reducible repeat (first | apply Kd.N_alloc | apply Kd.N_drewN | apply Kd.N_drew)); exact HO406.out⟩, ⟨hB_⟩⟩
  case round =>
    clear H'
    obtain ⟨x5_1, x12_1, rfl, HA, HK1, HO_5, HO_10, HB⟩ := hrel
    cases gk with
    | zero => exact absurd HA.out (by simp [impl_SurfacesIn.l0])
    | succ k1 =>
      have H := HA.out
      clear HA
      simp only [impl_SurfacesIn.l0] at H
      by_cases c8 : x12_1 < (t404.length : Int)
      · rw [if_pos c8] at H
        have c8b0 := decide_eq_true c8
        clear c8
        have c9 := cp_ H
        replace H := ca_ H
        have c9b0 := decide_eq_true c9
        clear c9
        have c10 := cp_ H
        replace H := ca_ H
        have c10b0 := decide_eq_true c10
        clear c10
        obtain ⟨t409, A11, H⟩ := bi_ H
        obtain ⟨t412, A12, H⟩ := bi_ H
        by_cases c13 : t412 = true
        · subst c13
          rw [if_pos rfl] at H
          have c14 := cp_ H
          replace H := ca_ H
          have LMc14 := Aside0.mk c14
          clear c14
          obtain ⟨y413, hy413⟩ : ∃ y_ : List (S33), y_ = (x5_1 ++ [(⟨(rd_T33 t404 x12_1).f0, (rd_T33 t404 x12_1).f1⟩ : S33)]) := ⟨_, rfl⟩
          replace H : (impl_SurfacesIn.l0 k1 l1 y413 t404 (t404.length : Int) (wrap64 (x12_1 + 1))) = some r := by first | (rw [hy413]; exact H) | exact H
          have Ny413 := Aside0.mk hy413
          clear hy413
          have H' := Aside0.mk H
          clear H
          have p407 : 0 ≤ (x12_1 : Int) := of_decide_eq_true qe_
          have q407 : x12_1 < (t404.length : Int) := of_decide_eq_true qe_
          obtain ⟨ad407, A407_0, c407_0, A407_1, c407_1, e407, hx407_0, hx407_1, hl407_0, hi407_0, hl407_1, hi407_1⟩ := at_T33 (Kd.N_reads' HO_10.out).2.2 x12_1 p407 q407
          cases e407
          obtain ⟨ce407, hce407, hMe407, hcc407⟩ := Kd.N_get HO_10.out z33 x12_1 p407 (by first | exact q407 | exact of_decide_eq_true qe_ | (have e_ := (Kd.N_reads' HO_10.out).1; omega))
          obtain ⟨ua407_0, uc407_0, ua407_1, uc407_1, rfl, ul407_0, ge407_0, ul407_1, ge407_1⟩ := k33_openF hMe407
          have hv407_0 := hcc407 0 _ rfl
          rw [Nat.add_zero] at hv407_0
          replace hv407_0 := Option.some.inj (hv407_0.symm.trans hx407_0)
          injection hv407_0 with hva_ hvn_ hvc_
          rw [hva_] at ge407_0
          rw [hvc_] at ul407_0
          have HL407_0 := Aside0.mk (show Kd.V (Kd.int .i64) 3 _ w.heap.size _ _ ((rd_T33 t404 x12_1).f0) from Kd.V_mk ul407_0 ge407_0)
          clear hva_ hvn_ hvc_ ge407_0 ul407_0
          have hv407_1 := hcc407 1 _ rfl
          rw [add_field _ _ 1 (by omega)] at hv407_1
          replace hv407_1 := Option.some.inj (hv407_1.symm.trans hx407_1)
          injection hv407_1 with hva_ hvn_ hvc_
          rw [hva_] at ge407_1
          rw [hvc_] at ul407_1
          have HL407_1 := Aside0.mk (show Kd.V (Kd.int .i64) 3 _ w.heap.size _ _ ((rd_T33 t404 x12_1).f1) from Kd.V_mk ul407_1 ge407_1)
          clear hva_ hvn_ hvc_ ge407_1 ul407_1
          clear hcc407 hce407
          have HR407_0 := Aside0.mk hi407_0
          have HC407_0 := Aside0.mk hl407_0
          clear hi407_0 hl407_0
          have HR407_1 := Aside0.mk hi407_1
          have HC407_1 := Aside0.mk hl407_1
          clear hi407_1 hl407_1
          replace p407 := eq_true p407
          replace q407 := eq_true q407
          go_wp2_with (first | ((with_reducible refine gate_dst (N := 7) rfl ?_); refine bx_ 7 #[.slice none 0 0, .slice none 0 0] 33 ?_; intro gb408 hg w15 hbox hb; replace HO_5 := Aside0.mk (Kd.N_below (Kd.N_elderB (by (with_reducible repeat (first | apply Kd.N_alloc | apply Kd.N_drewN | apply Kd.N_drew)); exact HO_5.out) gb408 (Nat.le_of_eq hg.symm)) hb); replace HO_10 := Aside0.mk (Kd.N_below (Kd.N_elderB (by (with_reducible repeat (first | apply Kd.N_alloc | apply Kd.N_drewN | apply Kd.N_drew)); exact HO_10.out) gb408 (Nat.le_of_eq hg.symm)) hb); replace HL407_0 := Aside0.mk (Kd.V_below (Kd.V_elderB (by (with_reducible repeat (first | apply Kd.V_alloc | apply Kd.V_drewN | apply Kd.V_drew)); exact HL407_0.out) gb408 (Nat.le_of_eq hg.symm)) hb); replace HL407_1 := Aside0.mk (Kd.V_below (Kd.V_elderB (by (with_reducible repeat (first | apply Kd.V_alloc | apply Kd.V_drewN | apply Kd.V_drew)); exact HL407_1.out) gb408 (Nat.le_of_eq hg.symm)) hb); replace HR407_0 := Aside0.mk (Kd.C_below (by repeat (first | (with_reducible exact HR407_0.out) | (with_reducible refine Kd.C_alloc ?_ _) | (with_reducible refine Kd.C_drewN ?_ _) | (with_reducible refine Kd.C_drew ?_) | exact HR407_0.out)) hb); replace HR407_1 := Aside0.mk (Kd.C_below (by repeat (first | (with_reducible exact HR407_1.out) | (with_reducible refine Kd.C_alloc ?_ _) | (with_reducible refine Kd.C_drewN ?_ _) | (with_reducible refine Kd.C_drew ?_) | exact HR407_1.out)) hb); have BK408 := Aside0.mk hbox; have GW408 := gw_ w hg; have GE408 := GW408; replace HB := b1_ hb; clear hb hbox hg; obtain ⟨hcz16_0, hcz16_1, hfz16_0, hfz16_1⟩ := c2_ BK408) | ((with_reducible refine gate_callee (f := 26) rfl ?_); refine gL_ (some 17) Try.func26 #[.agg #[.slice A407_0 ((rd_T33 t404 x12_1).f0).length c407_0, .slice A407_1 ((rd_T33 t404 x12_1).f1).length c407_1]] rfl qa_ ?_; (with_reducible refine (impl_StratumOf.calls k1 _ _ ((rd_T33 t404 x12_1).f0) _ _ ((rd_T33 t404 x12_1).f1) t409 _ ?side1 ?side2 ?side3 ?side4 A11.out).mono ?_); (case side1 => repeat (first | exact ((Kd.V_reads' (by (with_reducible repeat (first | apply Kd.V_alloc | apply Kd.V_drewN | apply Kd.V_drew)); exact (Kd.V_mono (Kd.V_far (p := ⟨gb408, 1, none⟩) (Kd.V_far (p := ⟨gb408, 0, none⟩) (Kd.V_mono HL407_0.out (fun k_ hk => (⟨hk, hk.2⟩ : _ ∧ k_ ≠ gb408))) (fun _ hk => hk.2) (.slice A407_0 ((rd_T33 t404 x12_1).f0).length c407_0)) (fun _ hk => hk.2) (.slice A407_1 ((rd_T33 t404 x12_1).f1).length c407_1)) (fun _ h_ => h_.1)))).2.2) | (with_reducible refine Kd.C_alloc ?_ _) | (with_reducible refine Kd.C_drewN ?_ _) | (with_reducible refine Kd.C_drew ?_))); (case side2 => exact HC407_0.out); (case side3 => repeat (first | exact ((Kd.V_reads' (by (with_reducible repeat (first | apply Kd.V_alloc | apply Kd.V_drewN | apply Kd.V_drew)); exact (Kd.V_mono (Kd.V_far (p := ⟨gb408, 1, none⟩) (Kd.V_far (p := ⟨gb408, 0, none⟩) (Kd.V_mono HL407_1.out (fun k_ hk => (⟨hk, hk.2⟩ : _ ∧ k_ ≠ gb408))) (fun _ hk => hk.2) (.slice A407_0 ((rd_T33 t404 x12_1).f0).length c407_0)) (fun _ hk => hk.2) (.slice A407_1 ((rd_T33 t404 x12_1).f1).length c407_1)) (fun _ h_ => h_.1)))).2.2) | (with_reducible refine Kd.C_alloc ?_ _) | (with_reducible refine Kd.C_drewN ?_ _) | (with_reducible refine Kd.C_drew ?_))); (case side4 => exact HC407_1.out); rintro e w17 ⟨v410, rfl, ho0, hb⟩; refine ⟨_, rfl, ?_⟩; replace HO_5 := Aside0.mk (Kd.N_elder' (by (with_reducible repeat (first | apply Kd.N_alloc | apply Kd.N_drewN | apply Kd.N_drew)); exact (Kd.N_mono (Kd.N_far (p := ⟨gb408, 1, none⟩) (Kd.N_far (p := ⟨gb408, 0, none⟩) (Kd.N_mono HO_5.out (fun k_ hk => (⟨hk, hk.2⟩ : _ ∧ k_ ≠ gb408))) (fun _ hk => hk.2) (.slice A407_0 ((rd_T33 t404 x12_1).f0).length c407_0)) (fun _ hk => hk.2) (.slice A407_1 ((rd_T33 t404 x12_1).f1).length c407_1)) (fun _ h_ => h_.1))) (Kd.R_base ho0) hb); replace HO_10 := Aside0.mk (Kd.N_elder' (by (with_reducible repeat (first | apply Kd.N_alloc | apply Kd.N_drewN | apply Kd.N_drew)); exact (Kd.N_mono (Kd.N_far (p := ⟨gb408, 1, none⟩) (Kd.N_far (p := ⟨gb408, 0, none⟩) (Kd.N_mono HO_10.out (fun k_ hk => (⟨hk, hk.2⟩ : _ ∧ k_ ≠ gb408))) (fun _ hk => hk.2) (.slice A407_0 ((rd_T33 t404 x12_1).f0).length c407_0)) (fun _ hk => hk.2) (.slice A407_1 ((rd_T33 t404 x12_1).f1).length c407_1)) (fun _ h_ => h_.1))) (Kd.R_base ho0) hb); have HO411 := Aside0.mk (Kd.R_lower (Kd.R_newM (M := fun k_ => (w.heap.size ≤ k_)) ho0 (below_size hB_) (fun k_ h_ => h_)) (below_size hB_)); replace HR407_0 := Aside0.mk (Kd.C_below ((Kd.V_reads' (by (with_reducible repeat (first | apply Kd.V_alloc | apply Kd.V_drewN | apply Kd.V_drew)); exact (Kd.V_mono (Kd.V_far (p := ⟨gb408, 1, none⟩) (Kd.V_far (p := ⟨gb408, 0, none⟩) (Kd.V_mono HL407_0.out (fun k_ hk => (⟨hk, hk.2⟩ : _ ∧ k_ ≠ gb408))) (fun _ hk => hk.2) (.slice A407_0 ((rd_T33 t404 x12_1).f0).length c407_0)) (fun _ hk => hk.2) (.slice A407_1 ((rd_T33 t404 x12_1).f1).length c407_1)) (fun _ h_ => h_.1)))).2.2) hb); replace HL407_0 := Aside0.mk (Kd.V_elder' (by (with_reducible repeat (first | apply Kd.V_alloc | apply Kd.V_drewN | apply Kd.V_drew)); exact (Kd.V_mono (Kd.V_far (p := ⟨gb408, 1, none⟩) (Kd.V_far (p := ⟨gb408, 0, none⟩) (Kd.V_mono HL407_0.out (fun k_ hk => (⟨hk, hk.2⟩ : _ ∧ k_ ≠ gb408))) (fun _ hk => hk.2) (.slice A407_0 ((rd_T33 t404 x12_1).f0).length c407_0)) (fun _ hk => hk.2) (.slice A407_1 ((rd_T33 t404 x12_1).f1).length c407_1)) (fun _ h_ => h_.1))) (Kd.R_base ho0) hb); replace HR407_1 := Aside0.mk (Kd.C_below ((Kd.V_reads' (by (with_reducible repeat (first | apply Kd.V_alloc | apply Kd.V_drewN | apply Kd.V_drew)); exact (Kd.V_mono (Kd.V_far (p := ⟨gb408, 1, none⟩) (Kd.V_far (p := ⟨gb408, 0, none⟩) (Kd.V_mono HL407_1.out (fun k_ hk => (⟨hk, hk.2⟩ : _ ∧ k_ ≠ gb408))) (fun _ hk => hk.2) (.slice A407_0 ((rd_T33 t404 x12_1).f0).length c407_0)) (fun _ hk => hk.2) (.slice A407_1 ((rd_T33 t404 x12_1).f1).length c407_1)) (fun _ h_ => h_.1)))).2.2) hb); replace HL407_1 := Aside0.mk (Kd.V_elder' (by (with_reducible repeat (first | apply Kd.V_alloc | apply Kd.V_drewN | apply Kd.V_drew)); exact (Kd.V_mono (Kd.V_far (p := ⟨gb408, 1, none⟩) (Kd.V_far (p := ⟨gb408, 0, none⟩) (Kd.V_mono HL407_1.out (fun k_ hk => (⟨hk, hk.2⟩ : _ ∧ k_ ≠ gb408))) (fun _ hk => hk.2) (.slice A407_0 ((rd_T33 t404 x12_1).f0).length c407_0)) (fun _ hk => hk.2) (.slice A407_1 ((rd_T33 t404 x12_1).f1).length c407_1)) (fun _ h_ => h_.1))) (Kd.R_base ho0) hb); replace BK408 := Aside0.mk (blk_below (g := gb408) (o := .cells #[.slice A407_0 ((rd_T33 t404 x12_1).f0).length c407_0, .slice A407_1 ((rd_T33 t404 x12_1).f1).length c407_1] 33 (0, 0)) qp_ hb); replace HB := b1_ hb; clear hb ho0; obtain ⟨Ao18, co18, eo18⟩ := Kd.R_slice HO411.out; subst eo18) | ((with_reducible refine gate_callee (f := 56) rfl ?_); refine gL_ (some 19) Try.func56 #[.slice Ao18 t409.length co18, .slice A1 l1.length c1] rfl qa_ ?_; (with_reducible refine (impl_SameList.calls k1 _ _ t409 _ _ l1 true _ (cr_ HO411) ((Kd.R_reads' HO411.out).2.1) (cb_ HR1) HC1.out A12.out).mono ?_); rintro e w' ⟨rfl, ⟨nd, rfl⟩⟩; refine ⟨_, rfl, ?_⟩; have hcz19_0 : w17.cell? ⟨gb408, 0, none⟩ = some (.slice A407_0 ((rd_T33 t404 x12_1).f0).length c407_0) := cz0_ BK408; have hcz19_1 : w17.cell? ⟨gb408, 1, none⟩ = some (.slice A407_1 ((rd_T33 t404 x12_1).f1).length c407_1) := cz1_ BK408; have hfz19_0 := blk_frozen BK408.out 0; have hfz19_1 := blk_frozen BK408.out 1) | ((with_reducible refine gate_builtin (b := .append) (xs := #[.tmp 20, .tmp 22]) rfl ?_); at_builtin; refine Kd.N_append k33 (w0 := w) w.heap.size rfl (.tmp 20) (.tmp 22) 25 33 (.agg #[(.slice none 0 0), (.slice none 0 0)]) 48 rfl Try.underlying25 info33 rfl (by decide) (by omega) u5 x5_1 (⟨(rd_T33 t404 x12_1).f0, (rd_T33 t404 x12_1).f1⟩ : S33) [.slice A407_0 ((rd_T33 t404 x12_1).f0).length c407_0, .slice A407_1 ((rd_T33 t404 x12_1).f1).length c407_1] (fun k_ => (w.heap.size ≤ k_) ∧ some k_ ≠ (.slice (some ad407) t404.length co7 : Value).ownBlock ∧ some k_ ≠ (.slice Ao18 t409.length co18 : Value).ownBlock ∧ k_ ≠ gb408) (fun k_ => ((fun k_ => (w.heap.size ≤ k_) ∧ some k_ ≠ (.slice (some ad407) t404.length co7 : Value).ownBlock ∧ some k_ ≠ (.slice Ao18 t409.length co18 : Value).ownBlock ∧ k_ ≠ gb408)) k_ ∧ some k_ ≠ (u5 : Value).ownBlock) rfl rfl ?aP (fun _ hk => hk) ?aF ?aO ?aB ?aS ?aL ?_; (case aP => exact (k33_mkF _ _ (⟨(rd_T33 t404 x12_1).f0, (rd_T33 t404 x12_1).f1⟩ : S33) (Kd.V_reads' (Kd.V_mono (ok' := (fun k_ => ((fun k_ => (w.heap.size ≤ k_) ∧ some k_ ≠ (.slice (some ad407) t404.length co7 : Value).ownBlock ∧ some k_ ≠ (.slice Ao18 t409.length co18 : Value).ownBlock ∧ k_ ≠ gb408)) k_ ∧ some k_ ≠ (u5 : Value).ownBlock)) (HL407_0.out) (fun k_ hk => ⟨⟨hk.1.1.1.1, ⟨hk.1.1.2, ⟨hk.2, hk.1.2⟩⟩⟩, hk.1.1.1.2⟩))).2.1 (Kd.V_F (Kd.V_mono (ok' := (fun k_ => ((fun k_ => (w.heap.size ≤ k_) ∧ some k_ ≠ (.slice (some ad407) t404.length co7 : Value).ownBlock ∧ some k_ ≠ (.slice Ao18 t409.length co18 : Value).ownBlock ∧ k_ ≠ gb408)) k_ ∧ some k_ ≠ (u5 : Value).ownBlock)) (HL407_0.out) (fun k_ hk => ⟨⟨hk.1.1.1.1, ⟨hk.1.1.2, ⟨hk.2, hk.1.2⟩⟩⟩, hk.1.1.1.2⟩))) (Kd.V_reads' (Kd.V_mono (ok' := (fun k_ => ((fun k_ => (w.heap.size ≤ k_) ∧ some k_ ≠ (.slice (some ad407) t404.length co7 : Value).ownBlock ∧ some k_ ≠ (.slice Ao18 t409.length co18 : Value).ownBlock ∧ k_ ≠ gb408)) k_ ∧ some k_ ≠ (u5 : Value).ownBlock)) (HL407_1.out) (fun k_ hk => ⟨⟨hk.1.1.1.1, ⟨hk.1.1.2, ⟨hk.2, hk.1.2⟩⟩⟩, hk.1.1.1.2⟩))).2.1 (Kd.V_F (Kd.V_mono (ok' := (fun k_ => ((fun k_ => (w.heap.size ≤ k_) ∧ some k_ ≠ (.slice (some ad407) t404.length co7 : Value).ownBlock ∧ some k_ ≠ (.slice Ao18 t409.length co18 : Value).ownBlock ∧ k_ ≠ gb408)) k_ ∧ some k_ ≠ (u5 : Value).ownBlock)) (HL407_1.out) (fun k_ hk => ⟨⟨hk.1.1.1.1, ⟨hk.1.1.2, ⟨hk.2, hk.1.2⟩⟩⟩, hk.1.1.1.2⟩))))); (case aB => exact hB_); (case aF => exact (fun k_ hk => ⟨(Nat.le_trans (below_size hB_) hk), Kd.fresh' (Kd.N_lt (by (with_reducible repeat (first | apply Kd.N_alloc | apply Kd.N_drewN | apply Kd.N_drew)); exact HO_10.out)) k_ hk, Kd.fresh' (Kd.R_lt (rr_ HO411)) k_ hk, Kd.freshB (kk_ BK408) k_ hk⟩)); (case aO => exact (by (with_reducible repeat (first | apply Kd.N_alloc | apply Kd.N_drewN | apply Kd.N_drew)); exact Kd.N_mono HO_5.out (fun _ hk => ⟨hk.1.1.1, ⟨hk.1.1.2, ⟨hk.2, hk.1.2⟩⟩⟩))); (case aS => exact (below_size hB_)); (case aL => have := LMc14.out; omega); intro v414 w20 ho hb hg hat; rw [← Ny413.out] at ho; replace HO_10 := Aside0.mk (Kd.N_afterv (ok := (fun k_ => (w.heap.size ≤ k_) ∧ some k_ ≠ (.slice Ao18 t409.length co18 : Value).ownBlock ∧ k_ ≠ gb408)) (by (with_reducible repeat (first | apply Kd.N_alloc | apply Kd.N_drewN | apply Kd.N_drew)); exact Kd.N_mono HO_10.out (fun _ hk => ⟨⟨hk.1.1.1, ⟨hk.2, hk.1.2⟩⟩, hk.1.1.2⟩)) hg hat); replace HL407_0 := Aside0.mk (Kd.V_afterv (ok := (fun k_ => (w.heap.size ≤ k_) ∧ some k_ ≠ (.slice (some ad407) t404.length co7 : Value).ownBlock ∧ some k_ ≠ (.slice Ao18 t409.length co18 : Value).ownBlock ∧ k_ ≠ gb408)) (by (with_reducible repeat (first | apply Kd.V_alloc | apply Kd.V_drewN | apply Kd.V_drew)); exact Kd.V_mono HL407_0.out (fun _ hk => ⟨⟨hk.1.1.1.1, ⟨hk.1.1.2, ⟨hk.2, hk.1.2⟩⟩⟩, hk.1.1.1.2⟩)) hg hat); replace HL407_1 := Aside0.mk (Kd.V_afterv (ok := (fun k_ => (w.heap.size ≤ k_) ∧ some k_ ≠ (.slice (some ad407) t404.length co7 : Value).ownBlock ∧ some k_ ≠ (.slice Ao18 t409.length co18 : Value).ownBlock ∧ k_ ≠ gb408)) (by (with_reducible repeat (first | apply Kd.V_alloc | apply Kd.V_drewN | apply Kd.V_drew)); exact Kd.V_mono HL407_1.out (fun _ hk => ⟨⟨hk.1.1.1.1, ⟨hk.1.1.2, ⟨hk.2, hk.1.2⟩⟩⟩, hk.1.1.1.2⟩)) hg hat); replace BK408 := Aside0.mk (blk_grown (kk_ BK408) hg (Kd.N_away HO_5.out (fun _ hk => hk.1.2))); replace HO411 := Aside0.mk (Kd.R_over' (rr_ HO411) (Kd.N_typed (by (with_reducible repeat (first | apply Kd.N_alloc | apply Kd.N_drewN | apply Kd.N_drew)); exact HO_5.out)) (by decide) hg); replace HB := Aside0.mk hb; have HO415 := Aside0.mk ho; clear HO_5; clear ho hb hg hat))
          go_roundg k1
          case measure => have := HK1.out; omega
          case rel => exact ⟨(y413), (wrap64 (x12_1 + 1)), qc_, H', ⟨by have := HK1.out; omega⟩, ⟨by (with_reducible repeat (first | apply Kd.N_alloc | apply Kd.N_drewN | apply Kd.N_drew)); exact Kd.N_mono HO415.out (fun _ hk => ⟨hk.1, hk.2.1⟩)⟩, ⟨by (with_reducible repeat (first | apply Kd.N_alloc | apply Kd.N_drewN | apply Kd.N_drew)); exact Kd.N_mono HO_10.out (fun _ hk => ⟨hk.1.1, hk.2⟩)⟩, ⟨hB_⟩⟩
        · replace c13 := Bool.eq_false_iff.mpr c13
          subst c13
          have H1 : (impl_SurfacesIn.l0 k1 l1 x5_1 t404 (t404.length : Int) (wrap64 (x12_1 + 1))) = some r := by rw [if_neg (show ¬ (false = true) by decide)] at H; exact H
          clear H
          have H := H1
          clear H1
          have H' := Aside0.mk H
          clear H
          have p407 : 0 ≤ (x12_1 : Int) := of_decide_eq_true qe_
          have q407 : x12_1 < (t404.length : Int) := of_decide_eq_true qe_
          obtain ⟨ad407, A407_0, c407_0, A407_1, c407_1, e407, hx407_0, hx407_1, hl407_0, hi407_0, hl407_1, hi407_1⟩ := at_T33 (Kd.N_reads' HO_10.out).2.2 x12_1 p407 q407
          cases e407
          obtain ⟨ce407, hce407, hMe407, hcc407⟩ := Kd.N_get HO_10.out z33 x12_1 p407 (by first | exact q407 | exact of_decide_eq_true qe_ | (have e_ := (Kd.N_reads' HO_10.out).1; omega))
          obtain ⟨ua407_0, uc407_0, ua407_1, uc407_1, rfl, ul407_0, ge407_0, ul407_1, ge407_1⟩ := k33_openF hMe407
          have hv407_0 := hcc407 0 _ rfl
          rw [Nat.add_zero] at hv407_0
          replace hv407_0 := Option.some.inj (hv407_0.symm.trans hx407_0)
          injection hv407_0 with hva_ hvn_ hvc_
          rw [hva_] at ge407_0
          rw [hvc_] at ul407_0
          have HL407_0 := Aside0.mk (show Kd.V (Kd.int .i64) 3 _ w.heap.size _ _ ((rd_T33 t404 x12_1).f0) from Kd.V_mk ul407_0 ge407_0)
          clear hva_ hvn_ hvc_ ge407_0 ul407_0
          have hv407_1 := hcc407 1 _ rfl
          rw [add_field _ _ 1 (by omega)] at hv407_1
          replace hv407_1 := Option.some.inj (hv407_1.symm.trans hx407_1)
          injection hv407_1 with hva_ hvn_ hvc_
          rw [hva_] at ge407_1
          rw [hvc_] at ul407_1
          have HL407_1 := Aside0.mk (show Kd.V (Kd.int .i64) 3 _ w.heap.size _ _ ((rd_T33 t404 x12_1).f1) from Kd.V_mk ul407_1 ge407_1)
          clear hva_ hvn_ hvc_ ge407_1 ul407_1
          clear hcc407 hce407
          have HR407_0 := Aside0.mk hi407_0
          have HC407_0 := Aside0.mk hl407_0
          clear hi407_0 hl407_0
          have HR407_1 := Aside0.mk hi407_1
          have HC407_1 := Aside0.mk hl407_1
          clear hi407_1 hl407_1
          replace p407 := eq_true p407
          replace q407 := eq_true q407
          go_wp2_with (first | ((with_reducible refine gate_dst (N := 7) rfl ?_); refine bx_ 7 #[.slice none 0 0, .slice none 0 0] 33 ?_; intro gb408 hg w21 hbox hb; replace HO_5 := Aside0.mk (Kd.N_below (Kd.N_elderB (by (with_reducible repeat (first | apply Kd.N_alloc | apply Kd.N_drewN | apply Kd.N_drew)); exact HO_5.out) gb408 (Nat.le_of_eq hg.symm)) hb); replace HO_10 := Aside0.mk (Kd.N_below (Kd.N_elderB (by (with_reducible repeat (first | apply Kd.N_alloc | apply Kd.N_drewN | apply Kd.N_drew)); exact HO_10.out) gb408 (Nat.le_of_eq hg.symm)) hb); replace HL407_0 := Aside0.mk (Kd.V_below (Kd.V_elderB (by (with_reducible repeat (first | apply Kd.V_alloc | apply Kd.V_drewN | apply Kd.V_drew)); exact HL407_0.out) gb408 (Nat.le_of_eq hg.symm)) hb); replace HL407_1 := Aside0.mk (Kd.V_below (Kd.V_elderB (by (with_reducible repeat (first | apply Kd.V_alloc | apply Kd.V_drewN | apply Kd.V_drew)); exact HL407_1.out) gb408 (Nat.le_of_eq hg.symm)) hb); replace HR407_0 := Aside0.mk (Kd.C_below (by repeat (first | (with_reducible exact HR407_0.out) | (with_reducible refine Kd.C_alloc ?_ _) | (with_reducible refine Kd.C_drewN ?_ _) | (with_reducible refine Kd.C_drew ?_) | exact HR407_0.out)) hb); replace HR407_1 := Aside0.mk (Kd.C_below (by repeat (first | (with_reducible exact HR407_1.out) | (with_reducible refine Kd.C_alloc ?_ _) | (with_reducible refine Kd.C_drewN ?_ _) | (with_reducible refine Kd.C_drew ?_) | exact HR407_1.out)) hb); have BK408 := Aside0.mk hbox; have GW408 := gw_ w hg; have GE408 := GW408; replace HB := b1_ hb; clear hb hbox hg; obtain ⟨hcz22_0, hcz22_1, hfz22_0, hfz22_1⟩ := c2_ BK408) | ((with_reducible refine gate_callee (f := 26) rfl ?_); refine gL_ (some 17) Try.func26 #[.agg #[.slice A407_0 ((rd_T33 t404 x12_1).f0).length c407_0, .slice A407_1 ((rd_T33 t404 x12_1).f1).length c407_1]] rfl qa_ ?_; (with_reducible refine (impl_StratumOf.calls k1 _ _ ((rd_T33 t404 x12_1).f0) _ _ ((rd_T33 t404 x12_1).f1) t409 _ ?side1 ?side2 ?side3 ?side4 A11.out).mono ?_); (case side1 => repeat (first | exact ((Kd.V_reads' (by (with_reducible repeat (first | apply Kd.V_alloc | apply Kd.V_drewN | apply Kd.V_drew)); exact (Kd.V_mono (Kd.V_far (p := ⟨gb408, 1, none⟩) (Kd.V_far (p := ⟨gb408, 0, none⟩) (Kd.V_mono HL407_0.out (fun k_ hk => (⟨hk, hk.2⟩ : _ ∧ k_ ≠ gb408))) (fun _ hk => hk.2) (.slice A407_0 ((rd_T33 t404 x12_1).f0).length c407_0)) (fun _ hk => hk.2) (.slice A407_1 ((rd_T33 t404 x12_1).f1).length c407_1)) (fun _ h_ => h_.1)))).2.2) | (with_reducible refine Kd.C_alloc ?_ _) | (with_reducible refine Kd.C_drewN ?_ _) | (with_reducible refine Kd.C_drew ?_))); (case side2 => exact HC407_0.out); (case side3 => repeat (first | exact ((Kd.V_reads' (by (with_reducible repeat (first | apply Kd.V_alloc | apply Kd.V_drewN | apply Kd.V_drew)); exact (Kd.V_mono (Kd.V_far (p := ⟨gb408, 1, none⟩) (Kd.V_far (p := ⟨gb408, 0, none⟩) (Kd.V_mono HL407_1.out (fun k_ hk => (⟨hk, hk.2⟩ : _ ∧ k_ ≠ gb408))) (fun _ hk => hk.2) (.slice A407_0 ((rd_T33 t404 x12_1).f0).length c407_0)) (fun _ hk => hk.2) (.slice A407_1 ((rd_T33 t404 x12_1).f1).length c407_1)) (fun _ h_ => h_.1)))).2.2) | (with_reducible refine Kd.C_alloc ?_ _) | (with_reducible refine Kd.C_drewN ?_ _) | (with_reducible refine Kd.C_drew ?_))); (case side4 => exact HC407_1.out); rintro e w23 ⟨v410, rfl, ho0, hb⟩; refine ⟨_, rfl, ?_⟩; replace HO_5 := Aside0.mk (Kd.N_elder' (by (with_reducible repeat (first | apply Kd.N_alloc | apply Kd.N_drewN | apply Kd.N_drew)); exact (Kd.N_mono (Kd.N_far (p := ⟨gb408, 1, none⟩) (Kd.N_far (p := ⟨gb408, 0, none⟩) (Kd.N_mono HO_5.out (fun k_ hk => (⟨hk, hk.2⟩ : _ ∧ k_ ≠ gb408))) (fun _ hk => hk.2) (.slice A407_0 ((rd_T33 t404 x12_1).f0).length c407_0)) (fun _ hk => hk.2) (.slice A407_1 ((rd_T33 t404 x12_1).f1).length c407_1)) (fun _ h_ => h_.1))) (Kd.R_base ho0) hb); replace HO_10 := Aside0.mk (Kd.N_elder' (by (with_reducible repeat (first | apply Kd.N_alloc | apply Kd.N_drewN | apply Kd.N_drew)); exact (Kd.N_mono (Kd.N_far (p := ⟨gb408, 1, none⟩) (Kd.N_far (p := ⟨gb408, 0, none⟩) (Kd.N_mono HO_10.out (fun k_ hk => (⟨hk, hk.2⟩ : _ ∧ k_ ≠ gb408))) (fun _ hk => hk.2) (.slice A407_0 ((rd_T33 t404 x12_1).f0).length c407_0)) (fun _ hk => hk.2) (.slice A407_1 ((rd_T33 t404 x12_1).f1).length c407_1)) (fun _ h_ => h_.1))) (Kd.R_base ho0) hb); have HO411 := Aside0.mk (Kd.R_lower (Kd.R_newM (M := fun k_ => (w.heap.size ≤ k_)) ho0 (below_size hB_) (fun k_ h_ => h_)) (below_size hB_)); replace HR407_0 := Aside0.mk (Kd.C_below ((Kd.V_reads' (by (with_reducible repeat (first | apply Kd.V_alloc | apply Kd.V_drewN | apply Kd.V_drew)); exact (Kd.V_mono (Kd.V_far (p := ⟨gb408, 1, none⟩) (Kd.V_far (p := ⟨gb408, 0, none⟩) (Kd.V_mono HL407_0.out (fun k_ hk => (⟨hk, hk.2⟩ : _ ∧ k_ ≠ gb408))) (fun _ hk => hk.2) (.slice A407_0 ((rd_T33 t404 x12_1).f0).length c407_0)) (fun _ hk => hk.2) (.slice A407_1 ((rd_T33 t404 x12_1).f1).length c407_1)) (fun _ h_ => h_.1)))).2.2) hb); replace HL407_0 := Aside0.mk (Kd.V_elder' (by (with_reducible repeat (first | apply Kd.V_alloc | apply Kd.V_drewN | apply Kd.V_drew)); exact (Kd.V_mono (Kd.V_far (p := ⟨gb408, 1, none⟩) (Kd.V_far (p := ⟨gb408, 0, none⟩) (Kd.V_mono HL407_0.out (fun k_ hk => (⟨hk, hk.2⟩ : _ ∧ k_ ≠ gb408))) (fun _ hk => hk.2) (.slice A407_0 ((rd_T33 t404 x12_1).f0).length c407_0)) (fun _ hk => hk.2) (.slice A407_1 ((rd_T33 t404 x12_1).f1).length c407_1)) (fun _ h_ => h_.1))) (Kd.R_base ho0) hb); replace HR407_1 := Aside0.mk (Kd.C_below ((Kd.V_reads' (by (with_reducible repeat (first | apply Kd.V_alloc | apply Kd.V_drewN | apply Kd.V_drew)); exact (Kd.V_mono (Kd.V_far (p := ⟨gb408, 1, none⟩) (Kd.V_far (p := ⟨gb408, 0, none⟩) (Kd.V_mono HL407_1.out (fun k_ hk => (⟨hk, hk.2⟩ : _ ∧ k_ ≠ gb408))) (fun _ hk => hk.2) (.slice A407_0 ((rd_T33 t404 x12_1).f0).length c407_0)) (fun _ hk => hk.2) (.slice A407_1 ((rd_T33 t404 x12_1).f1).length c407_1)) (fun _ h_ => h_.1)))).2.2) hb); replace HL407_1 := Aside0.mk (Kd.V_elder' (by (with_reducible repeat (first | apply Kd.V_alloc | apply Kd.V_drewN | apply Kd.V_drew)); exact (Kd.V_mono (Kd.V_far (p := ⟨gb408, 1, none⟩) (Kd.V_far (p := ⟨gb408, 0, none⟩) (Kd.V_mono HL407_1.out (fun k_ hk => (⟨hk, hk.2⟩ : _ ∧ k_ ≠ gb408))) (fun _ hk => hk.2) (.slice A407_0 ((rd_T33 t404 x12_1).f0).length c407_0)) (fun _ hk => hk.2) (.slice A407_1 ((rd_T33 t404 x12_1).f1).length c407_1)) (fun _ h_ => h_.1))) (Kd.R_base ho0) hb); replace BK408 := Aside0.mk (blk_below (g := gb408) (o := .cells #[.slice A407_0 ((rd_T33 t404 x12_1).f0).length c407_0, .slice A407_1 ((rd_T33 t404 x12_1).f1).length c407_1] 33 (0, 0)) qp_ hb); replace HB := b1_ hb; clear hb ho0; obtain ⟨Ao24, co24, eo24⟩ := Kd.R_slice HO411.out; subst eo24) | ((with_reducible refine gate_callee (f := 56) rfl ?_); refine gL_ (some 19) Try.func56 #[.slice Ao24 t409.length co24, .slice A1 l1.length c1] rfl qa_ ?_; (with_reducible refine (impl_SameList.calls k1 _ _ t409 _ _ l1 false _ (cr_ HO411) ((Kd.R_reads' HO411.out).2.1) (cb_ HR1) HC1.out A12.out).mono ?_); rintro e w' ⟨rfl, ⟨nd, rfl⟩⟩; refine ⟨_, rfl, ?_⟩))
          go_roundg k1
          case measure => have := HK1.out; omega
          case rel => exact ⟨(x5_1), (wrap64 (x12_1 + 1)), qc_, H', ⟨by have := HK1.out; omega⟩, ⟨by (with_reducible repeat (first | apply Kd.N_alloc | apply Kd.N_drewN | apply Kd.N_drew)); exact Kd.N_mono HO_5.out (fun _ hk => ⟨hk.1.1.1, hk.1.1.2⟩)⟩, ⟨by (with_reducible repeat (first | apply Kd.N_alloc | apply Kd.N_drewN | apply Kd.N_drew)); exact Kd.N_mono HO_10.out (fun _ hk => ⟨hk.1.1.1, hk.1.1.2⟩)⟩, ⟨hB_⟩⟩
      · rw [if_neg c8] at H
        have c8b0 := decide_eq_false c8
        clear c8
        obtain rfl := Option.some.inj H
        go_wp2
        go_ret
        exact ⟨_, qb_, by (with_reducible repeat (first | apply Kd.N_alloc | apply Kd.N_drewN | apply Kd.N_drew)); exact Kd.N_mono HO_5.out (fun _ hk => hk.1), hB_⟩
end Go.Proofs.Ytoijcallajegfaa.A
end
section
namespace Go.Proofs.Ytoijcallajegfaa.A
open Go.RowKit Go.Proofs.YtoijcallajegfaaW.PrintWords Go.Proofs.YtoijcallajegfaaW.PrintLast Go.Proofs.YtoijcallajegfaaW.PrintMore
attribute [local go_sem] max2_int min2_int max_two min_two max_three min_three max_four min_four
set_option linter.unusedVariables false
set_option linter.unusedSimpArgs false
def spec_l01Below.f (s0_0 : List Int) (s0_1 : Int) (s0_2 : Int) (a1 : Int) : Option (Int × Int × Int) := if a1 ≤ 0 then (some (0, s0_1, s0_2)) else (if a1 ≤ 256 then ((spec_l01Byte.f s0_0 s0_1 s0_2).bind fun bt416 => (if a1 = 0 then (none) else (some (Int.tmod bt416.1 a1, bt416.2.1, bt416.2.2)))) else ((spec_l01Byte.f s0_0 s0_1 s0_2).bind fun bt419 => ((spec_l01Byte.f s0_0 bt419.2.1 bt419.2.2).bind fun bt422 => ((spec_l01Byte.f s0_0 bt422.2.1 bt422.2.2).bind fun bt425 => ((spec_l01Byte.f s0_0 bt425.2.1 bt425.2.2).bind fun bt428 => (if a1 = 0 then (none) else (some (Int.tmod (wrap64 ((wrap64 ((wrap64 ((wrap64 (bt419.1 * 16777216)) + (wrap64 (bt422.1 * 65536)))) + (wrap64 (bt425.1 * 256)))) + bt428.1)) a1, bt428.2.1, bt428.2.2))))))))
set_option maxHeartbeats 8000000 in
set_option maxRecDepth 100000 in
theorem spec_l01Below.calls (g : Nat) (s0_0 : List Int) (s0_1 : Int) (s0_2 : Int) (a1 : Int) (r1 : Int) (r2 : Int) (r3 : Int) (w0 w : World) (hI : IsS102 w0 w g s0_0 s0_1 s0_2) (hB : Below w0.heap.size w0 w) (h : spec_l01Below.f s0_0 s0_1 s0_2 a1 = some (r1, r2, r3)) :
    Calls Try.prog 63 #[.pointer (some ⟨g, 0, none⟩), .int .i64 a1] w fun e w' => e = .returned (.int .i64 r1) ∧ IsS102 w0 w' g s0_0 r2 r3 ∧ Below w0.heap.size w0 w' ∧ KeepBut w w' g none := by
  have HI0 := Aside0.mk hI
  have HK := Aside0.mk (KeepBut.refl w g none)
  have HL := Aside0.mk hB.size
  clear hI
  have HW0 := Aside0.mk hB.size
  have HB := Aside0.mk hB
  clear hB
  have H := h
  unfold spec_l01Below.f at H
  clear h
  by_cases c3 : a1 ≤ 0
  · rw [if_pos c3] at H
    have c3b0 := decide_eq_true c3
    clear c3
    simp only [Option.some.injEq, Prod.mk.injEq] at H
    obtain ⟨rfl, rfl, rfl⟩ := H
    go_enter Try.func63, Try.ntmps63
    go_wp2
    go_ret
    exact ⟨qb_, hI_IsS102_HI0, hBI_, hK_⟩
  · rw [if_neg c3] at H
    have c3b0 := decide_eq_false c3
    clear c3
    by_cases c4 : a1 ≤ 256
    · rw [if_pos c4] at H
      have c4b0 := decide_eq_true c4
      clear c4
      obtain ⟨⟨t416, t417, t418⟩, A5, H⟩ := bi_ H
      try dsimp only at H
      by_cases c6 : a1 = 0
      · rw [if_pos c6] at H
        exact absurd H (by simp)
      · rw [if_neg c6] at H
        have c6b0 : (a1 == 0) = false := beq_eq_false_iff_ne.mpr c6
        have c6b1 : (a1 != 0) = true := bne_iff_ne.mpr c6
        simp only [Option.some.injEq, Prod.mk.injEq] at H
        obtain ⟨rfl, rfl, rfl⟩ := H
        go_enter Try.func63, Try.ntmps63
        go_wp2_with (first | ((with_reducible refine gate_callee (f := 49) rfl ?_); refine gL_ (some 14) Try.func49 #[.pointer (some ⟨g, 0, none⟩)] rfl qa_ ?_; (with_reducible refine (spec_l01Byte.calls g s0_0 s0_1 s0_2 t416 t417 t418 w0 _ ?side1 ?side2 A5.out).mono ?_); (case side1 => repeat (first | (with_reducible first | exact HI0.out | apply IsS102.alloc | apply IsS102.drewN | apply IsS102.drew | apply IsS102.set_1 | apply IsS102.set_2) | exact HI0.out)); (case side2 => repeat (first | (with_reducible first | exact HB.out | apply below_alloc | apply pw_below_drewN | apply below_drew1 | refine below_set ?_ (IsS102.ge HI0.out)) | exact HB.out)); rintro e w7 ⟨rfl, hi, hb, hk⟩; refine ⟨_, rfl, ?_⟩; replace HK := Aside0.mk (KeepBut.trans hK_ hk (.inl rfl)); replace HB := Aside0.mk hb; replace HI0 := Aside0.mk hi; clear hb hk hi))
        go_ret
        exact ⟨qb_, hI_IsS102_HI0, hBI_, hK_⟩
    · rw [if_neg c4] at H
      have c4b0 := decide_eq_false c4
      clear c4
      obtain ⟨⟨t419, t420, t421⟩, A8, H⟩ := bi_ H
      try dsimp only at H
      obtain ⟨⟨t422, t423, t424⟩, A9, H⟩ := bi_ H
      try dsimp only at H
      obtain ⟨⟨t425, t426, t427⟩, A10, H⟩ := bi_ H
      try dsimp only at H
      obtain ⟨⟨t428, t429, t430⟩, A11, H⟩ := bi_ H
      try dsimp only at H
      by_cases c12 : a1 = 0
      · rw [if_pos c12] at H
        exact absurd H (by simp)
      · rw [if_neg c12] at H
        have c12b0 : (a1 == 0) = false := beq_eq_false_iff_ne.mpr c12
        have c12b1 : (a1 != 0) = true := bne_iff_ne.mpr c12
        simp only [Option.some.injEq, Prod.mk.injEq] at H
        obtain ⟨rfl, rfl, rfl⟩ := H
        go_enter Try.func63, Try.ntmps63
        go_wp2_with (first | ((with_reducible refine gate_callee (f := 49) rfl ?_); refine gL_ (some 18) Try.func49 #[.pointer (some ⟨g, 0, none⟩)] rfl qa_ ?_; (with_reducible refine (spec_l01Byte.calls g s0_0 s0_1 s0_2 t419 t420 t421 w0 _ ?side1 ?side2 A8.out).mono ?_); (case side1 => repeat (first | (with_reducible first | exact HI0.out | apply IsS102.alloc | apply IsS102.drewN | apply IsS102.drew | apply IsS102.set_1 | apply IsS102.set_2) | exact HI0.out)); (case side2 => repeat (first | (with_reducible first | exact HB.out | apply below_alloc | apply pw_below_drewN | apply below_drew1 | refine below_set ?_ (IsS102.ge HI0.out)) | exact HB.out)); rintro e w13 ⟨rfl, hi, hb, hk⟩; refine ⟨_, rfl, ?_⟩; replace HK := Aside0.mk (KeepBut.trans hK_ hk (.inl rfl)); replace HB := Aside0.mk hb; replace HI0 := Aside0.mk hi; clear hb hk hi) | ((with_reducible refine gate_callee (f := 49) rfl ?_); refine gL_ (some 20) Try.func49 #[.pointer (some ⟨g, 0, none⟩)] rfl qa_ ?_; (with_reducible refine (spec_l01Byte.calls g s0_0 t420 t421 t422 t423 t424 w0 _ ?side1 ?side2 A9.out).mono ?_); (case side1 => repeat (first | (with_reducible first | exact HI0.out | apply IsS102.alloc | apply IsS102.drewN | apply IsS102.drew | apply IsS102.set_1 | apply IsS102.set_2) | exact HI0.out)); (case side2 => repeat (first | (with_reducible first | exact HB.out | apply below_alloc | apply pw_below_drewN | apply below_drew1 | refine below_set ?_ (IsS102.ge HI0.out)) | exact HB.out)); rintro e w14 ⟨rfl, hi, hb, hk⟩; refine ⟨_, rfl, ?_⟩; replace HK := Aside0.mk (KeepBut.trans hK_ hk (.inl rfl)); replace HB := Aside0.mk hb; replace HI0 := Aside0.mk hi; clear hb hk hi) | ((with_reducible refine gate_callee (f := 49) rfl ?_); refine gL_ (some 22) Try.func49 #[.pointer (some ⟨g, 0, none⟩)] rfl qa_ ?_; (with_reducible refine (spec_l01Byte.calls g s0_0 t423 t424 t425 t426 t427 w0 _ ?side1 ?side2 A10.out).mono ?_); (case side1 => repeat (first | (with_reducible first | exact HI0.out | apply IsS102.alloc | apply IsS102.drewN | apply IsS102.drew | apply IsS102.set_1 | apply IsS102.set_2) | exact HI0.out)); (case side2 => repeat (first | (with_reducible first | exact HB.out | apply below_alloc | apply pw_below_drewN | apply below_drew1 | refine below_set ?_ (IsS102.ge HI0.out)) | exact HB.out)); rintro e w15 ⟨rfl, hi, hb, hk⟩; refine ⟨_, rfl, ?_⟩; replace HK := Aside0.mk (KeepBut.trans hK_ hk (.inl rfl)); replace HB := Aside0.mk hb; replace HI0 := Aside0.mk hi; clear hb hk hi) | ((with_reducible refine gate_callee (f := 49) rfl ?_); refine gL_ (some 24) Try.func49 #[.pointer (some ⟨g, 0, none⟩)] rfl qa_ ?_; (with_reducible refine (spec_l01Byte.calls g s0_0 t426 t427 t428 t429 t430 w0 _ ?side1 ?side2 A11.out).mono ?_); (case side1 => repeat (first | (with_reducible first | exact HI0.out | apply IsS102.alloc | apply IsS102.drewN | apply IsS102.drew | apply IsS102.set_1 | apply IsS102.set_2) | exact HI0.out)); (case side2 => repeat (first | (with_reducible first | exact HB.out | apply below_alloc | apply pw_below_drewN | apply below_drew1 | refine below_set ?_ (IsS102.ge HI0.out)) | exact HB.out)); rintro e w16 ⟨rfl, hi, hb, hk⟩; refine ⟨_, rfl, ?_⟩; replace HK := Aside0.mk (KeepBut.trans hK_ hk (.inl rfl)); replace HB := Aside0.mk hb; replace HI0 := Aside0.mk hi; clear hb hk hi))
        go_ret
        exact ⟨qb_, hI_IsS102_HI0, hBI_, hK_⟩
end Go.Proofs.Ytoijcallajegfaa.A
end
section
namespace Go.Proofs.Ytoijcallajegfaa.A
open Go.RowKit Go.Proofs.YtoijcallajegfaaW.PrintWords Go.Proofs.YtoijcallajegfaaW.PrintLast Go.Proofs.YtoijcallajegfaaW.PrintMore
attribute [local go_sem] max2_int min2_int max_two min_two max_three min_three max_four min_four
set_option linter.unusedVariables false
set_option linter.unusedSimpArgs false
def spec_l02Draw.l0 : Nat → Int → List Int → Int → List Int → Int → Int → Option (List Int × Int × Int)
  | 0, _, _, _, _, _, _ => none
  | k + 1, x1, x5, x6, x1000, x1001, x1002 => if x6 < x1 then ((spec_l01Below.f x1000 x1001 x1002 (wrap64 (x6 + 1))).bind fun bt434 => (if x5.length < 17592186044416 then ((some (x5 ++ [x6] : List Int)).bind fun y437 => (if 0 ≤ bt434.1 then (if bt434.1 < (y437.length : Int) then (if 0 ≤ x6 then (if x6 < (y437.length : Int) then (spec_l02Draw.l0 k x1 ((y437.set (x6 : Int).toNat (rd y437 bt434.1)).set (bt434.1 : Int).toNat x6) (wrap64 (x6 + 1)) x1000 bt434.2.1 bt434.2.2) else (none)) else (none)) else (none)) else (none))) else (none))) else (some (x5, x1001, x1002))
def spec_l02Draw.f (k : Nat) (s0_0 : List Int) (s0_1 : Int) (s0_2 : Int) (a1 : Int) : Option (List Int × Int × Int) := spec_l02Draw.l0 k a1 (([] : List Int)) 0 s0_0 s0_1 s0_2
theorem spec_l02Draw.mono_l : ∀ k, (∀ y0 y1 y2 y3 y4 y5, LeO (spec_l02Draw.l0 k y0 y1 y2 y3 y4 y5) (spec_l02Draw.l0 (k + 1) y0 y1 y2 y3 y4 y5))
  | 0 => fun _ _ _ _ _ _ r h => by simp [spec_l02Draw.l0] at h
  | k + 1 => by
    have ih0 := spec_l02Draw.mono_l k
    · intro y0 y1 y2 y3 y4 y5
      unfold spec_l02Draw.l0
      repeat' first|exact ih0 _ _ _ _ _ _|exact lo_|refine LeO.ite ?_ ?_|refine LeO.bind ?_ (fun _ => ?_)
theorem spec_l02Draw.mono : ∀ a0 a1 a2 a3 k, LeO (spec_l02Draw.f k a0 a1 a2 a3) (spec_l02Draw.f (k + 1) a0 a1 a2 a3) := by
  intro a0 a1 a2 a3 k
  have ih0 := spec_l02Draw.mono_l k
  unfold spec_l02Draw.f
  repeat' first|exact ih0 _ _ _ _ _ _|exact lo_|refine LeO.ite ?_ ?_|refine LeO.bind ?_ (fun _ => ?_)
set_option maxHeartbeats 8000000 in
set_option maxRecDepth 100000 in
theorem spec_l02Draw.calls (k : Nat) (g : Nat) (s0_0 : List Int) (s0_1 : Int) (s0_2 : Int) (a1 : Int) (r1 : List Int) (r2 : Int) (r3 : Int) (w0 w : World) (hI : IsS102 w0 w g s0_0 s0_1 s0_2) (hB : Below w0.heap.size w0 w) (h : spec_l02Draw.f k s0_0 s0_1 s0_2 a1 = some (r1, r2, r3)) :
    Calls Try.prog 57 #[.pointer (some ⟨g, 0, none⟩), .int .i64 a1] w fun e w' => ∃ v0_ : Value, e = .returned (v0_) ∧ Kd.R (Kd.int .i64) 3 w' w.heap.size (fun _ => True) v0_ r1 ∧ IsS102 w0 w' g s0_0 r2 r3 ∧ Below w0.heap.size w0 w' ∧ KeepBut w w' g none := by
  have HI0 := Aside0.mk hI
  have HK := Aside0.mk (KeepBut.refl w g none)
  have HL := Aside0.mk hB.size
  clear hI
  have HW0 := Aside0.mk hB.size
  have HB := Aside0.mk hB
  clear hB
  have H := h
  unfold spec_l02Draw.f at H
  clear h
  obtain ⟨y431, hy431⟩ : ∃ y_ : List Int, y_ = (([] : List Int)) := ⟨_, rfl⟩
  replace H : (spec_l02Draw.l0 k a1 y431 0 s0_0 s0_1 s0_2) = some (r1, r2, r3) := by first | (rw [hy431]; exact H) | exact H
  have Ny431 := Aside0.mk hy431
  clear hy431
  have H' := Aside0.mk H
  clear H
  go_enter Try.func57, Try.ntmps57
  go_wp2_with (first | ((with_reducible refine gate_dst (N := 8) rfl ?_); refine Kd.R_lit (Kd.int .i64) _ 3 ?hg (N := 8) ?hd (xs := ([] : List Int)) (inner := []) (ok := fun _ => True) (okp := fun _ => True) ?hr ?hp (fun _ hk => hk) trivial (Below.refl _ _) (Nat.le_refl _) (by simp) ?_; (case hd => rfl); (case hg => rfl); (case hr => first | (go_simp; done) | (go_simp; rfl)); (case hp => exact (Reps.none _ _)); intro v432 w3 ho4 hb hg_ hnew_; clear hg_ hnew_; (first | rw [← Ny431.out] at ho4 | (simp only [Int.reduceToNat] at ho4; rw [← Ny431.out] at ho4)); have HO433 := Aside0.mk (Kd.R_lower ho4 (keep_size (w := w) (g := g) (row := none) hK_)); replace HK := Aside0.mk (KeepBut.trans hK_ (KeepBut.of_below hb g none) (.inl rfl)); replace HB := b2_ hb; replace HI0 := Aside0.mk (IsS102.below hI_IsS102_HI0 hb); clear hb ho4))
  go_loopg [5, 6] k (fun kq v5 v6 w' => ∃ (x5_1 : List Int) (x6_1 : Int) (x1001_1 : Int) (x1002_1 : Int), v6 = .int .i64 x6_1 ∧ Aside0 (spec_l02Draw.l0 kq a1 x5_1 x6_1 s0_0 x1001_1 x1002_1 = some (r1, r2, r3)) ∧ Aside0 (kq ≤ k) ∧ Aside0 (Kd.R (Kd.int .i64) 3 w' w.heap.size (fun _ => True) v5 x5_1) ∧ Aside0 (IsS102 w0 w' g s0_0 x1001_1 x1002_1) ∧ Aside0 (KeepBut w w' g none) ∧ Aside0 (Below w0.heap.size w0 w'))
  case atStart => exact ⟨(y431), (0), (s0_1), (s0_2), qc_, H', ⟨Nat.le_refl _⟩, ⟨(rr_ HO433)⟩, ⟨hI_IsS102_HI0⟩, ⟨hK_⟩, ⟨hBI_⟩⟩
  case round =>
    clear H'
    obtain ⟨x5_1, x6_1, x1001_1, x1002_1, rfl, HA, HK1, HO_5, HI0, HK, HB⟩ := hrel
    cases gk with
    | zero => exact absurd HA.out (by simp [spec_l02Draw.l0])
    | succ k1 =>
      have H := HA.out
      clear HA
      simp only [spec_l02Draw.l0] at H
      by_cases c5 : x6_1 < a1
      · rw [if_pos c5] at H
        have c5b0 := decide_eq_true c5
        clear c5
        obtain ⟨⟨t434, t435, t436⟩, A6, H⟩ := bi_ H
        try dsimp only at H
        have c7 := cp_ H
        replace H := ca_ H
        have LMc7 := Aside0.mk c7
        clear c7
        obtain ⟨y437, hy437⟩ : ∃ y_ : List Int, y_ = (x5_1 ++ [x6_1]) := ⟨_, rfl⟩
        replace H : (if 0 ≤ t434 then (if t434 < (y437.length : Int) then (if 0 ≤ x6_1 then (if x6_1 < (y437.length : Int) then (spec_l02Draw.l0 k1 a1 ((y437.set (x6_1 : Int).toNat (rd y437 t434)).set (t434 : Int).toNat x6_1) (wrap64 (x6_1 + 1)) s0_0 t435 t436) else (none)) else (none)) else (none)) else (none)) = some (r1, r2, r3) := by first | (rw [hy437]; exact H) | exact H
        have Ny437 := Aside0.mk hy437
        clear hy437
        have c8 := cp_ H
        replace H := ca_ H
        have c8b0 := decide_eq_true c8
        clear c8
        have c9 := cp_ H
        replace H := ca_ H
        have c9b0 := decide_eq_true c9
        clear c9
        have c10 := cp_ H
        replace H := ca_ H
        have c10b0 := decide_eq_true c10
        clear c10
        have c11 := cp_ H
        replace H := ca_ H
        have c11b0 := decide_eq_true c11
        clear c11
        obtain ⟨y441, hy441⟩ : ∃ y_ : List Int, y_ = (y437.set (x6_1 : Int).toNat (rd y437 t434)) := ⟨_, rfl⟩
        replace H : (spec_l02Draw.l0 k1 a1 (y441.set (t434 : Int).toNat x6_1) (wrap64 (x6_1 + 1)) s0_0 t435 t436) = some (r1, r2, r3) := by first | (rw [hy441]; exact H) | exact H
        have Ny441 := Aside0.mk hy441
        clear hy441
        obtain ⟨y442, hy442⟩ : ∃ y_ : List Int, y_ = (y441.set (t434 : Int).toNat x6_1) := ⟨_, rfl⟩
        replace H : (spec_l02Draw.l0 k1 a1 y442 (wrap64 (x6_1 + 1)) s0_0 t435 t436) = some (r1, r2, r3) := by first | (rw [hy442]; exact H) | exact H
        have Ny442 := Aside0.mk hy442
        clear hy442
        have H' := Aside0.mk H
        clear H
        go_wp2_with (first | ((with_reducible refine gate_callee (f := 63) rfl ?_); refine gL_ (some 17) Try.func63 #[.pointer (some ⟨g, 0, none⟩), .int .i64 (wrap64 (x6_1 + 1))] rfl qa_ ?_; (with_reducible refine (spec_l01Below.calls g s0_0 x1001_1 x1002_1 (wrap64 (x6_1 + 1)) t434 t435 t436 w0 _ ?side1 ?side2 A6.out).mono ?_); (case side1 => repeat (first | (with_reducible first | exact HI0.out | apply IsS102.alloc | apply IsS102.drewN | apply IsS102.drew | apply IsS102.set_1 | apply IsS102.set_2) | exact HI0.out)); (case side2 => repeat (first | (with_reducible first | exact HB.out | apply below_alloc | apply pw_below_drewN | apply below_drew1 | refine below_set ?_ (IsS102.ge HI0.out)) | exact HB.out)); rintro e w14 ⟨rfl, hi, hb, hk⟩; refine ⟨_, rfl, ?_⟩; replace HO_5 := Aside0.mk (Kd.R_mono (Kd.R_keep (IsS102.apart (show IsS102 w0 _ g s0_0 x1001_1 x1002_1 from hI_IsS102_HI0) (rr_ HO_5) (by decide)) hk (fun _ h => h.2)) (fun _ h => h.1)); replace HK := Aside0.mk (KeepBut.trans hK_ hk (.inl rfl)); replace HB := Aside0.mk hb; replace HI0 := Aside0.mk hi; clear hb hk hi) | ((with_reducible refine gate_builtin (b := .append) (xs := #[.tmp 18, .tmp 20]) rfl ?_); at_builtin; refine Kd.R_append (Kd.int .i64) w.heap.size rfl (.tmp 18) (.tmp 20) 23 3 (.int .i64 0) 8 rfl Try.underlying23 info3 rfl (by decide) (by omega) u5 x5_1 x6_1 [.int .i64 x6_1] (fun _ => True) (fun _ => False) rfl rfl ?aP (fun _ hk => hk.elim) ?aF ?aO (Below.refl _ _) ?aS ?aL ?_; (case aP => exact rfl); (case aF => exact (fun _ _ => trivial)); (case aO => exact (rr_ HO_5)); (case aS => exact (keep_size (w := w) (g := g) (row := none) hK_)); (case aL => have := LMc7.out; omega); intro v438 w15 ho hb hg hat; rw [← Ny437.out] at ho; replace HB := Aside0.mk (below_weaken hBI_ HL.out hb); replace HI0 := Aside0.mk (IsS102.grown hI_IsS102_HI0 hg (IsS102.own_ne HI0.out HO_5.out (by decide))); replace HK := Aside0.mk (KeepBut.trans hK_ (KeepBut.of_grown hg g) (Kd.R_base2 HO_5.out)); have HO439 := Aside0.mk ho; clear HO_5; clear ho hb hg hat; obtain ⟨Ao16, co16, eo16⟩ := Kd.R_slice HO439.out; subst eo16; have p440 : 0 ≤ (t434 : Int) := of_decide_eq_true qe_; have q440 : t434 < (y437.length : Int) := of_decide_eq_true qe_; obtain ⟨ad440, e440, hx440_0⟩ := Kd.at_int (Kd.R_reads' HO439.out).2.2 t434 p440 q440; cases e440; replace p440 := eq_true p440; replace q440 := eq_true q440; have p12 : 0 ≤ (x6_1 : Int) := of_decide_eq_true qe_; have q12 : (x6_1 : Int) < ((y437.length : Int) : Int) := of_decide_eq_true qe_; obtain ⟨go12, co12, eo12, gb12, gl12, cl12, HG12⟩ := Kd.R_form HO439.out (by omega); (first | cases eo12 | (injection eo12 with ea_ en_ ec_; (first | subst ea_ | (injection ea_ with ea_; subst ea_)); subst ec_; clear en_)); have GB12 := Aside0.mk gb12; have GG12 := Aside0.mk HG12; clear gb12 gl12 HG12; (first | simp only [add_plain] at hx440_0 | skip); obtain ⟨hx12_0, hf12_0⟩ := Kd.R_celln 0 HO439.out (x6_1 : Int) p12 q12; replace p12 := eq_true p12; replace q12 := eq_true q12; obtain ⟨hy17_, hz17_⟩ := Kd.R_celln 0 HO439.out (x6_1 : Int) (of_decide_eq_true qe_) (of_decide_eq_true qe_); have HP17 := Kd.R_putg HO439.out (x6_1 : Int) (rd y437 t434)) | ((with_reducible refine gate_store (t := 3) (p := 28) rfl ?_); refine store_event (t := 3) (p := 28) (v := ?vo_w18) (w1 := (w15.setCell ⟨go12, (x6_1 : Int).toNat, none⟩ (.int .i64 (rd y437 t434)))) ?hg ?ho ?hn ?hr ?_; (case ho => rfl); (case hg => rfl); (case hn => rfl); (case hr => first | (go_simp; done) | (go_simp; rfl)); intro w18 hw; have hg : w15.grownBy w18 (some go12) := (by rw [hw]; exact HP17.2); have hp_ : Kd.R (Kd.int .i64) 3 w18 w.heap.size (fun _ => True) (.slice (some ⟨go12, 0, none⟩) y437.length co16) y441 := (by rw [hw, Ny441.out]; exact HP17.1); clear HP17; replace HI0 := Aside0.mk (IsS102.grown hI_IsS102_HI0 hg (IsS102.own_ne HI0.out HO439.out (by decide))); replace HB := Aside0.mk ((by rw [hw]; exact below_set (HB.out) (Nat.le_trans HL.out GB12.out) : Below w0.heap.size w0 w18)); replace HK := Aside0.mk (KeepBut.trans hK_ (KeepBut.of_grown hg g) (Kd.R_base2 HO439.out)); replace HO439 := Aside0.mk (hp_); clear hg hw hp_; have p13 : 0 ≤ (t434 : Int) := of_decide_eq_true qe_; have q13 : (t434 : Int) < ((y437.length : Int) : Int) := of_decide_eq_true qe_; obtain ⟨hx13_0, hf13_0⟩ := Kd.R_celln 0 HO439.out (t434 : Int) p13 q13; replace p13 := eq_true p13; replace q13 := eq_true q13; obtain ⟨hy19_, hz19_⟩ := Kd.R_celln 0 HO439.out (t434 : Int) (of_decide_eq_true qe_) (of_decide_eq_true qe_); have HP19 := Kd.R_putg HO439.out (t434 : Int) x6_1) | ((with_reducible refine gate_store (t := 3) (p := 32) rfl ?_); refine store_event (t := 3) (p := 32) (v := ?vo_w20) (w1 := (w18.setCell ⟨go12, (t434 : Int).toNat, none⟩ (.int .i64 x6_1))) ?hg ?ho ?hn ?hr ?_; (case ho => rfl); (case hg => rfl); (case hn => rfl); (case hr => first | (go_simp; done) | (go_simp; rfl)); intro w20 hw; have hg : w18.grownBy w20 (some go12) := (by rw [hw]; exact HP19.2); have hp_ : Kd.R (Kd.int .i64) 3 w20 w.heap.size (fun _ => True) (.slice (some ⟨go12, 0, none⟩) y437.length co16) y442 := (by rw [hw, Ny442.out]; exact HP19.1); clear HP19; replace HI0 := Aside0.mk (IsS102.grown hI_IsS102_HI0 hg (IsS102.own_ne HI0.out HO439.out (by decide))); replace HB := Aside0.mk ((by rw [hw]; exact below_set (HB.out) (Nat.le_trans HL.out GB12.out) : Below w0.heap.size w0 w20)); replace HK := Aside0.mk (KeepBut.trans hK_ (KeepBut.of_grown hg g) (Kd.R_base2 HO439.out)); replace HO439 := Aside0.mk (hp_); clear hg hw hp_))
        go_roundg k1
        case measure => have := HK1.out; omega
        case rel => exact ⟨(y442), (wrap64 (x6_1 + 1)), (t435), (t436), qc_, H', ⟨by have := HK1.out; omega⟩, ⟨(rr_ HO439)⟩, ⟨hI_IsS102_HI0⟩, ⟨hK_⟩, ⟨hBI_⟩⟩
      · rw [if_neg c5] at H
        have c5b0 := decide_eq_false c5
        clear c5
        simp only [Option.some.injEq, Prod.mk.injEq] at H
        obtain ⟨rfl, rfl, rfl⟩ := H
        go_wp2
        go_ret
        exact ⟨_, qb_, (rr_ HO_5), hI_IsS102_HI0, hBI_, hK_⟩
end Go.Proofs.Ytoijcallajegfaa.A
end
section
namespace Go.Proofs.Ytoijcallajegfaa.A
open Go.RowKit Go.Proofs.YtoijcallajegfaaW.PrintWords Go.Proofs.YtoijcallajegfaaW.PrintLast Go.Proofs.YtoijcallajegfaaW.PrintMore
attribute [local go_sem] max2_int min2_int max_two min_two max_three min_three max_four min_four
set_option linter.unusedVariables false
set_option linter.unusedSimpArgs false
def spec_MakePerm.f (k : Nat) (l0 : List Int) (a1 : Int) (a2 : Int) : Option (List Int) := (spec_l20New.f k l0 a1).bind fun bt443 => ((spec_l02Draw.f k bt443.1 bt443.2.1 bt443.2.2 (mx 1 (mn a2 24))).bind fun bt447 => (some bt447.1))
theorem spec_MakePerm.mono : ∀ a0 a1 a2 k, LeO (spec_MakePerm.f k a0 a1 a2) (spec_MakePerm.f (k + 1) a0 a1 a2) := by
  intro a0 a1 a2 k
  unfold spec_MakePerm.f
  repeat' first|exact spec_l02Draw.mono _ _ _ _ _|exact spec_l20New.mono _ _ _|exact lo_|refine LeO.ite ?_ ?_|refine LeO.bind ?_ (fun _ => ?_)
set_option maxHeartbeats 8000000 in
set_option maxRecDepth 100000 in
theorem spec_MakePerm.calls (k : Nat) (A0 : Option Addr) (c0 : Nat) (l0 : List Int) (a1 : Int) (a2 : Int) (r : List Int) (w : World) (hr0 : Kd.C (Kd.int .u8) w A0 l0.length l0) (hc0 : l0.length ≤ c0) (h : spec_MakePerm.f k l0 a1 a2 = some r) :
    Calls Try.prog 16 #[.slice A0 l0.length c0, .int .i64 a1, .int .i64 a2] w fun e w' => ∃ v0_ : Value, e = .returned (v0_) ∧ Kd.R (Kd.int .i64) 3 w' w.heap.size (fun _ => True) v0_ r ∧ Below w.heap.size w w' := by
  have HR0 := Aside0.mk hr0
  have HC0 := Aside0.mk hc0
  clear hr0 hc0
  have HB := Aside0.mk (Below.refl w.heap.size w)
  have H := h
  unfold spec_MakePerm.f at H
  clear h
  obtain ⟨⟨t443, t444, t445⟩, A4, H⟩ := bi_ H
  try dsimp only at H
  obtain ⟨ji5, hji5⟩ : ∃ j_ : Int, (mn a2 24) = j_ := ⟨_, rfl⟩
  replace H : ((spec_l02Draw.f k t443 t444 t445 (mx 1 (ji5))).bind fun bt447 => (some bt447.1)) = some r := by first | (rw [hji5] at H; exact H) | (simp only [hji5] at H ⊢; exact H)
  (try rw [hji5] at A4)
  (try (have hji5h : ji5 ≤ 24 := by (rw [← hji5]; unfold mn; (repeat' split) <;> omega)))
  (try (have hji5g : ji5 ≤ 64 := by omega))
  have hji5_ : (if 24 < a2 then 24 else a2) = ji5 := hji5
  obtain ⟨ji6, hji6⟩ : ∃ j_ : Int, (mx 1 (ji5)) = j_ := ⟨_, rfl⟩
  replace H : ((spec_l02Draw.f k t443 t444 t445 (ji6)).bind fun bt447 => (some bt447.1)) = some r := by first | (rw [hji6] at H; exact H) | (simp only [hji6] at H ⊢; exact H)
  (try rw [hji6] at A4)
  have hji6_ : (if 1 < (ji5) then (ji5) else 1) = ji6 := hji6
  obtain ⟨⟨t447, t450, t451⟩, A7, H⟩ := bi_ H
  try dsimp only at H
  obtain rfl := Option.some.inj H
  go_enter Try.func16, Try.ntmps16
  go_wp2_with (first | ((with_reducible refine gate_callee (f := 48) rfl ?_); refine gL_ (some 9) Try.func48 #[.slice A0 l0.length c0, .int .i64 a1] rfl qa_ ?_; (with_reducible refine (spec_l20New.calls k _ _ l0 a1 t443 t444 t445 w _ ?side1 ?side2 ?side3 A4.out).mono ?_); (case side1 => repeat (first | (with_reducible first | exact HB.out | apply below_alloc | apply pw_below_drewN | apply below_drew1) | exact HB.out)); (case side2 => exact HR0.out); (case side3 => exact HC0.out); rintro e w8 ⟨g446, rfl, hi, hb, hb2⟩; refine ⟨_, rfl, ?_⟩; replace HB := Aside0.mk hb; have HI446 := Aside0.mk hi; clear hb hb2 hi) | ((with_reducible refine gate_callee (f := 57) rfl ?_); refine gL_ (some 13) Try.func57 #[.pointer (some ⟨g446, 0, none⟩), .int .i64 ji6] rfl (by (try simp only [List.map_toArray, List.map_cons, List.map_nil]); first | done | (simp only [hji6]; rfl) | rfl | (simp only [List.length_drop, List.length_take]; rfl)) ?_; (with_reducible refine (spec_l02Draw.calls k g446 t443 t444 t445 ji6 t447 t450 t451 w _ ?side1 ?side2 A7.out).mono ?_); (case side1 => repeat (first | (with_reducible first | exact HI446.out | apply IsS102.alloc | apply IsS102.drewN | apply IsS102.drew | apply IsS102.set_1 | apply IsS102.set_2) | exact HI446.out)); (case side2 => repeat (first | (with_reducible first | exact HB.out | apply below_alloc | apply pw_below_drewN | apply below_drew1 | refine below_set ?_ (IsS102.ge HI446.out)) | exact HB.out)); rintro e w9 ⟨v448, rfl, ho0, hi, hb, hk⟩; refine ⟨_, rfl, ?_⟩; have HO449 := Aside0.mk (Kd.R_lower ho0 (below_size hBI_)); replace HB := Aside0.mk hb; replace HI446 := Aside0.mk hi; clear hb hk hi ho0))
  go_ret
  exact ⟨_, by first | rfl | (simp [errW_none, errW_some] <;> rfl) | (simp only [← hji5, ← hji6]; first | rfl | (simp [errW_none, errW_some] <;> rfl)) | (simp [*, errW_none, errW_some] <;> rfl), (rr_ HO449), hBI_⟩
end Go.Proofs.Ytoijcallajegfaa.A
end
