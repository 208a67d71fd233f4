/- Lemmas for the row FnExactRowsOf: the program's functions told as plain functions, and plain mathematics. No conditions. -/
import Derived.Test.YtlbcafniodfdgaaQFnExactRowsOf2
section
namespace Go.Proofs.Ytlbcafniodfdgaa.A
open Go.RowKit Go.Proofs.YtlbcafniodfdgaaW.PrintWords Go.Proofs.YtlbcafniodfdgaaW.PrintLast Go.Proofs.YtlbcafniodfdgaaW.PrintMore
attribute [local go_sem] max2_int min2_int max_two min_two max_three min_three max_four min_four
set_option linter.unusedVariables false
set_option linter.unusedSimpArgs false
def impl_InversePerm.l0 : Nat → List Int → List Int → Int → Int → Option (List Int)
  | 0, _, _, _, _ => none
  | k + 1, x3, x12, x13, x14 => if x14 < x13 then (if 0 ≤ x14 then (if x14 < (x12.length : Int) then (if 0 ≤ (rd x12 x14) then (if (rd x12 x14) < (x3.length : Int) then (impl_InversePerm.l0 k (x3.set ((rd x12 x14) : Int).toNat x14) x12 x13 (wrap64 (x14 + 1))) else (none)) else (none)) else (none)) else (none)) else (some x3)
def impl_InversePerm.f (k : Nat) (l0 : List Int) : Option (List Int) := (impl_PermOk.f k l0).bind fun t226 => (if t226 = true then (if 0 ≤ (l0.length : Int) then (if ((l0.length : Int) : Int).toNat ≤ 35184372088832 then (impl_InversePerm.l0 k (List.replicate ((l0.length : Int) : Int).toNat 0) l0 (l0.length : Int) 0) else (none)) else (none)) else (some ([] : List Int)))
theorem impl_InversePerm.mono_l : ∀ k, (∀ y0 y1 y2 y3, LeO (impl_InversePerm.l0 k y0 y1 y2 y3) (impl_InversePerm.l0 (k + 1) y0 y1 y2 y3))
  | 0 => fun _ _ _ _ r h => by simp [impl_InversePerm.l0] at h
  | k + 1 => by
    have ih0 := impl_InversePerm.mono_l k
    · intro y0 y1 y2 y3
      unfold impl_InversePerm.l0
      repeat' first
      | (with_reducible exact ih0 _ _ _ _)
      | (with_reducible exact impl_PermOk.mono _ _)
      | (with_reducible exact LeO.refl _)
      | (with_reducible exact LeO.none _)
      | (with_reducible refine LeO.ite ?_ ?_)
      | (with_reducible refine LeO.bind ?_ (fun _ => ?_))
      | exact ih0 _ _ _ _
      | exact impl_PermOk.mono _ _
      | exact LeO.none _
      | refine LeO.ite ?_ ?_
      | refine LeO.bind ?_ (fun _ => ?_)
theorem impl_InversePerm.mono : ∀ a0 k, LeO (impl_InversePerm.f k a0) (impl_InversePerm.f (k + 1) a0) := by
  intro a0 k
  have ih0 := impl_InversePerm.mono_l k
  unfold impl_InversePerm.f
  repeat' first
      | (with_reducible exact ih0 _ _ _ _)
      | (with_reducible exact impl_PermOk.mono _ _)
      | (with_reducible exact LeO.refl _)
      | (with_reducible exact LeO.none _)
      | (with_reducible refine LeO.ite ?_ ?_)
      | (with_reducible refine LeO.bind ?_ (fun _ => ?_))
      | exact ih0 _ _ _ _
      | exact impl_PermOk.mono _ _
      | exact LeO.none _
      | refine LeO.ite ?_ ?_
      | refine LeO.bind ?_ (fun _ => ?_)
set_option maxHeartbeats 8000000 in
set_option maxRecDepth 100000 in
theorem impl_InversePerm.calls (k : Nat) (A0 : Option Addr) (c0 : Nat) (l0 : List Int) (r : List Int) (w : World) (hr0 : Kd.C (Kd.int .i64) w A0 l0.length l0) (hc0 : l0.length ≤ c0) (h : impl_InversePerm.f k l0 = some r) :
    Calls Try.prog 63 #[.slice A0 l0.length c0] w fun e w' => ∃ v0_ : Value, e = .returned (v0_) ∧ Kd.R (Kd.int .i64) 3 w' w.heap.size (fun _ => True) v0_ r ∧ Below w.heap.size w w' := by
  have HR0 := Aside0.mk hr0
  have HC0 := Aside0.mk hc0
  clear hr0 hc0
  have HB := Aside0.mk (Below.refl w.heap.size w)
  have H : ((impl_PermOk.f k l0).bind fun t226 => (if t226 = true then (if 0 ≤ (l0.length : Int) then (if ((l0.length : Int) : Int).toNat ≤ 35184372088832 then (impl_InversePerm.l0 k (List.replicate ((l0.length : Int) : Int).toNat 0) l0 (l0.length : Int) 0) else (none)) else (none)) else (some ([] : List Int)))) = some r := h
  clear h
  replace H := Option.bind_eq_some_iff.mp H
  obtain ⟨t226, A20, H⟩ := H
  replace H : (if t226 = true then (if 0 ≤ (l0.length : Int) then (if ((l0.length : Int) : Int).toNat ≤ 35184372088832 then (impl_InversePerm.l0 k (List.replicate ((l0.length : Int) : Int).toNat 0) l0 (l0.length : Int) 0) else (none)) else (none)) else (some ([] : List Int))) = some r := H
  have A2 := Aside0.mk A20
  clear A20
  by_cases c3 : t226 = true
  · subst c3
    have H1 : (if 0 ≤ (l0.length : Int) then (if ((l0.length : Int) : Int).toNat ≤ 35184372088832 then (impl_InversePerm.l0 k (List.replicate ((l0.length : Int) : Int).toNat 0) l0 (l0.length : Int) 0) else (none)) else (none)) = some r := by rw [if_pos rfl] at H; exact H
    clear H
    have H := H1
    clear H1
    by_cases c4 : 0 ≤ (l0.length : Int)
    · rw [if_pos c4] at H
      have c4b0 := eq_true c4
      have c4b1 : decide (0 ≤ (l0.length : Int)) = true := decide_eq_true c4
      clear c4
      by_cases c5 : ((l0.length : Int) : Int).toNat ≤ 35184372088832
      · rw [if_pos c5] at H
        have c5b0 := eq_true c5
        have c5b1 : decide (((l0.length : Int) : Int).toNat ≤ 35184372088832) = true := decide_eq_true c5
        clear c5
        obtain ⟨y227, hy227⟩ : ∃ y_ : List Int, y_ = (List.replicate ((l0.length : Int) : Int).toNat 0) := ⟨_, rfl⟩
        replace H : (impl_InversePerm.l0 k y227 l0 (l0.length : Int) 0) = some r := by first | (rw [hy227]; with_reducible exact H) | (have H2_ := (Option.bind_some _ _).symm.trans H; rw [hy227]; with_reducible exact H2_) | (have H2_ := (Option.bind_some _ _).symm.trans H; with_reducible exact H2_) | with_reducible exact H | (rw [hy227]; exact H) | exact H
        have Ny227 := Aside0.mk hy227
        clear hy227
        have H' := Aside0.mk H
        clear H
        go_enter Try.func63, Try.ntmps63
        go_wp2_with (first | ((with_reducible refine gate_callee (f := 62) rfl ?_); refine goesL_ (some 7) rfl rfl Try.func62 (by kernel_rfl) rfl #[.slice A0 l0.length c0] rfl (by (try simp only [List.map_toArray, List.map_cons, List.map_nil]); first | done | rfl | (simp only [List.length_drop, List.length_take]; rfl)) ?_; (with_reducible refine (impl_PermOk.calls k _ _ l0 true _ ?side1 ?side2 A2.out).mono ?_); (case side1 => repeat (first | exact HR0.out | (with_reducible refine Kd.C_alloc ?_ _) | (with_reducible refine Kd.C_drewN ?_ _) | (with_reducible refine Kd.C_drew ?_))); (case side2 => exact HC0.out); rintro e w6 ⟨rfl, hb⟩; refine ⟨_, rfl, ?_⟩; have n0_ := Aside0.mk (below_step (by repeat (first | (with_reducible first | exact HB.out | apply below_alloc | apply pw_below_drewN | apply below_drew1) | exact HB.out)) hb); clear HB; have HB := n0_; clear n0_; (try clear hb); (try clear hb2); (try clear hk); (try clear hi)) | ((with_reducible refine gate_dst (N := 11) rfl ?_); refine Kd.R_make (Kd.int .i64) _ 3 rfl (N := 11) rfl 29 _ _ rfl (l0.length : Int) rfl rfl Try.underlying29 (.int .i64 0) 8 info3 rfl (by decide) (by omega) 0 (ok := fun _ => True) (okp := fun _ => True) rfl (fun _ hk => hk) trivial (of_decide_eq_true (by first | (with_reducible assumption) | assumption)) (Nat.le_trans (Nat.mul_le_mul_right _ (of_decide_eq_true (by first | (with_reducible assumption) | assumption) : (l0.length : Int).toNat ≤ 35184372088832)) (by omega)) (Below.refl _ _) (Nat.le_refl _) ?_; intro v228 w7 ho8 hb hg_ hnew_; clear hg_ hnew_; (first | rw [← Ny227.out] at ho8 | (simp only [Int.reduceToNat] at ho8; rw [← Ny227.out] at ho8)); have n0_ := Aside0.mk (Kd.R_lower ho8 (below_size (by repeat (first | (with_reducible first | exact HB.out | apply below_alloc | apply pw_below_drewN | apply below_drew1) | exact HB.out)))); have n1_ := Aside0.mk (below_step (by repeat (first | (with_reducible first | exact HB.out | apply below_alloc | apply pw_below_drewN | apply below_drew1) | exact HB.out)) hb); clear HB; have HO229 := n0_; have HB := n1_; clear n0_ n1_; clear hb ho8))
        go_loopg [14] k (fun kq v14 w' => ∃ (x3_1 : List Int) (x14_1 : Int), v14 = .int .i64 x14_1 ∧ Aside0 (impl_InversePerm.l0 kq x3_1 l0 (l0.length : Int) x14_1 = some r) ∧ Aside0 (kq ≤ k) ∧ Aside0 (Kd.R (Kd.int .i64) 3 w' w.heap.size (fun _ => True) v228 x3_1) ∧ Aside0 (Below w.heap.size w w'))
        case atStart => exact ⟨(y227), (0), (by first | rfl | (simp; done) | (simp [*]; done)), H', ⟨Nat.le_refl _⟩, ⟨by (with_reducible repeat (first | apply Kd.R_alloc | apply Kd.R_drewN | apply Kd.R_drew)); exact HO229.out⟩, ⟨by repeat (first | (with_reducible first | exact HB.out | apply below_alloc | apply pw_below_drewN | apply below_drew1) | exact HB.out)⟩⟩
        case round =>
          clear H'
          try clear p2
          try clear c3
          try clear c4
          try clear c4b0
          try clear c4b1
          try clear c5
          try clear c5b0
          try clear c5b1
          try clear c6
          obtain ⟨x3_1, x14_1, rfl, HA, HK1, HO_3, HB⟩ := hrel
          cases gk with
          | zero => exact absurd HA.out (by simp [impl_InversePerm.l0])
          | succ k1 =>
            have H := HA.out
            clear HA
            simp only [impl_InversePerm.l0] at H
            by_cases c9 : x14_1 < (l0.length : Int)
            · rw [if_pos c9] at H
              have c9b0 : decide (x14_1 < (l0.length : Int)) = true := decide_eq_true c9
              clear c9
              by_cases c10 : 0 ≤ x14_1
              · rw [if_pos c10] at H
                have c10b0 : decide (0 ≤ x14_1) = true := decide_eq_true c10
                clear c10
                by_cases c11 : x14_1 < (l0.length : Int)
                · rw [if_pos c11] at H
                  have c11b0 : decide (x14_1 < (l0.length : Int)) = true := decide_eq_true c11
                  clear c11
                  by_cases c12 : 0 ≤ (rd l0 x14_1)
                  · rw [if_pos c12] at H
                    have c12b0 : decide (0 ≤ (rd l0 x14_1)) = true := decide_eq_true c12
                    clear c12
                    by_cases c13 : (rd l0 x14_1) < (x3_1.length : Int)
                    · rw [if_pos c13] at H
                      have c13b0 : decide ((rd l0 x14_1) < (x3_1.length : Int)) = true := decide_eq_true c13
                      clear c13
                      obtain ⟨y231, hy231⟩ : ∃ y_ : List Int, y_ = (x3_1.set ((rd l0 x14_1) : Int).toNat x14_1) := ⟨_, rfl⟩
                      replace H : (impl_InversePerm.l0 k1 y231 l0 (l0.length : Int) (wrap64 (x14_1 + 1))) = some r := by first | (rw [hy231]; with_reducible exact H) | (have H2_ := (Option.bind_some _ _).symm.trans H; rw [hy231]; with_reducible exact H2_) | (have H2_ := (Option.bind_some _ _).symm.trans H; with_reducible exact H2_) | with_reducible exact H | (rw [hy231]; exact H) | exact H
                      have Ny231 := Aside0.mk hy231
                      clear hy231
                      have H' := Aside0.mk H
                      clear H
                      have p230 : 0 ≤ (x14_1 : Int) := of_decide_eq_true (by first | (with_reducible assumption) | assumption)
                      have q230 : x14_1 < (l0.length : Int) := of_decide_eq_true (by first | (with_reducible assumption) | assumption)
                      obtain ⟨ad230, e230, hx230_0⟩ := Kd.at_int HR0.out x14_1 p230 q230
                      cases e230
                      replace hx230_0 := (HB.out.cell (World.block_lt_of_cell? w _ hx230_0)).trans hx230_0
                      replace p230 := eq_true p230
                      replace q230 := eq_true q230
                      have p14 : 0 ≤ ((rd l0 x14_1) : Int) := of_decide_eq_true (by first | (with_reducible assumption) | assumption)
                      have q14 : ((rd l0 x14_1) : Int) < ((x3_1.length : Int) : Int) := of_decide_eq_true (by first | (with_reducible assumption) | assumption)
                      obtain ⟨go14, co14, eo14, gb14, gl14, cl14, HG14⟩ := Kd.R_form HO_3.out (by omega)
                      (first | cases eo14 | (injection eo14 with ea_ en_ ec_; (first | subst ea_ | (injection ea_ with ea_; subst ea_)); subst ec_; clear en_))
                      have GB14 := Aside0.mk gb14
                      have GG14 := Aside0.mk HG14
                      clear gb14 gl14 HG14
                      obtain ⟨hx14_0, hf14_0⟩ := Kd.R_celln 0 HO_3.out ((rd l0 x14_1) : Int) p14 q14
                      replace p14 := eq_true p14
                      replace q14 := eq_true q14
                      have HP15 := Kd.R_putg HO_3.out ((rd l0 x14_1) : Int) x14_1
                      go_wp2_with (first | ((with_reducible refine gate_store (t := 3) (p := 22) rfl ?_); refine store_event (t := 3) (p := 22) (v := ?vo_w16) (w1 := (wr.setCell ⟨go14, ((rd l0 x14_1) : Int).toNat, none⟩ (.int .i64 x14_1))) ?hg ?ho ?hn ?hr ?_; (case ho => rfl); (case hg => rfl); (case hn => rfl); (case hr => first | (go_simp; done) | (go_simp; rfl)); intro w16 hw; have hg : wr.grownBy w16 (some go14) := (by rw [hw]; exact HP15.2); have hp_ : Kd.R (Kd.int .i64) 3 w16 w.heap.size (fun _ => True) (.slice (some ⟨go14, 0, none⟩) x3_1.length co14) y231 := (by rw [hw, Ny231.out]; exact HP15.1); clear HP15; have n0_ := Aside0.mk (hp_); have n1_ := Aside0.mk ((by rw [hw]; exact below_set (HB.out) GB14.out : Below w.heap.size w w16)); clear HO_3; clear HB; have HO_3 := n0_; have HB := n1_; clear n0_ n1_; clear hg hw hp_))
                      go_roundg k1
                      case measure => have := HK1.out; omega
                      case rel => exact ⟨(y231), (wrap64 (x14_1 + 1)), (by first | rfl | (simp; done) | (simp [*]; done)), H', ⟨by have := HK1.out; omega⟩, ⟨by (with_reducible repeat (first | apply Kd.R_alloc | apply Kd.R_drewN | apply Kd.R_drew)); exact HO_3.out⟩, ⟨by repeat (first | (with_reducible first | exact HB.out | apply below_alloc | apply pw_below_drewN | apply below_drew1) | exact HB.out)⟩⟩
                    · rw [if_neg c13] at H
                      exact absurd H (by simp)
                  · rw [if_neg c12] at H
                    exact absurd H (by simp)
                · rw [if_neg c11] at H
                  exact absurd H (by simp)
              · rw [if_neg c10] at H
                exact absurd H (by simp)
            · rw [if_neg c9] at H
              have c9b0 : decide (x14_1 < (l0.length : Int)) = false := decide_eq_false c9
              clear c9
              obtain rfl := Option.some.inj H
              go_wp2
              go_ret
              exact ⟨_, by first | rfl | (simp [errW_none, errW_some] <;> rfl) | (simp [*, errW_none, errW_some] <;> rfl), by (with_reducible repeat (first | apply Kd.R_alloc | apply Kd.R_drewN | apply Kd.R_drew)); exact HO_3.out, by repeat (first | (with_reducible first | exact HB.out | apply below_alloc | apply pw_below_drewN | apply below_drew1) | exact HB.out)⟩
      · rw [if_neg c5] at H
        exact absurd H (by simp)
    · rw [if_neg c4] at H
      exact absurd H (by simp)
  · replace c3 := Bool.eq_false_iff.mpr c3
    subst c3
    have H1 : (some ([] : List Int)) = some r := by rw [if_neg (show ¬ (false = true) by decide)] at H; exact H
    clear H
    have H := H1
    clear H1
    obtain rfl := Option.some.inj H
    go_enter Try.func63, Try.ntmps63
    go_wp2_with (first | ((with_reducible refine gate_callee (f := 62) rfl ?_); refine goesL_ (some 7) rfl rfl Try.func62 (by kernel_rfl) rfl #[.slice A0 l0.length c0] rfl (by (try simp only [List.map_toArray, List.map_cons, List.map_nil]); first | done | rfl | (simp only [List.length_drop, List.length_take]; rfl)) ?_; (with_reducible refine (impl_PermOk.calls k _ _ l0 false _ ?side1 ?side2 A2.out).mono ?_); (case side1 => repeat (first | exact HR0.out | (with_reducible refine Kd.C_alloc ?_ _) | (with_reducible refine Kd.C_drewN ?_ _) | (with_reducible refine Kd.C_drew ?_))); (case side2 => exact HC0.out); rintro e w17 ⟨rfl, hb⟩; refine ⟨_, rfl, ?_⟩; have n0_ := Aside0.mk (below_step (by repeat (first | (with_reducible first | exact HB.out | apply below_alloc | apply pw_below_drewN | apply below_drew1) | exact HB.out)) hb); clear HB; have HB := n0_; clear n0_; (try clear hb); (try clear hb2); (try clear hk); (try clear hi)))
    go_ret
    exact ⟨_, by first | rfl | (simp [errW_none, errW_some] <;> rfl) | (simp [*, errW_none, errW_some] <;> rfl), by first | exact Kd.R_nil _ _ _ _ _ | exact Kd.N_nil _ _ _ _ _ | exact Kd.V_nil _ _ _ _ _ | exact Kd.Q_nil _ _ _ _ _ | exact Kd.S_nil _ _ _ _ _, by repeat (first | (with_reducible first | exact HB.out | apply below_alloc | apply pw_below_drewN | apply below_drew1) | exact HB.out)⟩
end Go.Proofs.Ytlbcafniodfdgaa.A
end
section
namespace Go.Proofs.Ytlbcafniodfdgaa.A
open Go.RowKit Go.Proofs.YtlbcafniodfdgaaW.PrintWords Go.Proofs.YtlbcafniodfdgaaW.PrintLast Go.Proofs.YtlbcafniodfdgaaW.PrintMore
attribute [local go_sem] max2_int min2_int max_two min_two max_three min_three max_four min_four
set_option linter.unusedVariables false
set_option linter.unusedSimpArgs false
def spec_l02Inverse.l0 : Nat → List Int → List Int → Int → Int → Option (List Int)
  | 0, _, _, _, _ => none
  | k + 1, x3, x9, x10, x11 => if x11 < x10 then (if 0 ≤ x11 then (if x11 < (x9.length : Int) then (if 0 ≤ (rd x9 x11) then (if (rd x9 x11) < (x3.length : Int) then (spec_l02Inverse.l0 k (x3.set ((rd x9 x11) : Int).toNat x11) x9 x10 (wrap64 (x11 + 1))) else (none)) else (none)) else (none)) else (none)) else (some x3)
def spec_l02Inverse.f (k : Nat) (l0 : List Int) : Option (List Int) := if 0 ≤ (l0.length : Int) then (if ((l0.length : Int) : Int).toNat ≤ 35184372088832 then (spec_l02Inverse.l0 k (List.replicate ((l0.length : Int) : Int).toNat 0) l0 (l0.length : Int) 0) else (none)) else (none)
theorem spec_l02Inverse.mono_l : ∀ k, (∀ y0 y1 y2 y3, LeO (spec_l02Inverse.l0 k y0 y1 y2 y3) (spec_l02Inverse.l0 (k + 1) y0 y1 y2 y3))
  | 0 => fun _ _ _ _ r h => by simp [spec_l02Inverse.l0] at h
  | k + 1 => by
    have ih0 := spec_l02Inverse.mono_l k
    · intro y0 y1 y2 y3
      unfold spec_l02Inverse.l0
      repeat' first
      | (with_reducible exact ih0 _ _ _ _)
      | (with_reducible exact LeO.refl _)
      | (with_reducible exact LeO.none _)
      | (with_reducible refine LeO.ite ?_ ?_)
      | (with_reducible refine LeO.bind ?_ (fun _ => ?_))
      | exact ih0 _ _ _ _
      | exact LeO.none _
      | refine LeO.ite ?_ ?_
      | refine LeO.bind ?_ (fun _ => ?_)
theorem spec_l02Inverse.mono : ∀ a0 k, LeO (spec_l02Inverse.f k a0) (spec_l02Inverse.f (k + 1) a0) := by
  intro a0 k
  have ih0 := spec_l02Inverse.mono_l k
  unfold spec_l02Inverse.f
  repeat' first
      | (with_reducible exact ih0 _ _ _ _)
      | (with_reducible exact LeO.refl _)
      | (with_reducible exact LeO.none _)
      | (with_reducible refine LeO.ite ?_ ?_)
      | (with_reducible refine LeO.bind ?_ (fun _ => ?_))
      | exact ih0 _ _ _ _
      | exact LeO.none _
      | refine LeO.ite ?_ ?_
      | refine LeO.bind ?_ (fun _ => ?_)
set_option maxHeartbeats 8000000 in
set_option maxRecDepth 100000 in
theorem spec_l02Inverse.calls (k : Nat) (A0 : Option Addr) (c0 : Nat) (l0 : List Int) (r : List Int) (w : World) (hr0 : Kd.C (Kd.int .i64) w A0 l0.length l0) (hc0 : l0.length ≤ c0) (h : spec_l02Inverse.f k l0 = some r) :
    Calls Try.prog 83 #[.slice A0 l0.length c0] w fun e w' => ∃ v0_ : Value, e = .returned (v0_) ∧ Kd.R (Kd.int .i64) 3 w' w.heap.size (fun _ => True) v0_ r ∧ Below w.heap.size w w' := by
  have HR0 := Aside0.mk hr0
  have HC0 := Aside0.mk hc0
  clear hr0 hc0
  have HB := Aside0.mk (Below.refl w.heap.size w)
  have H : (if 0 ≤ (l0.length : Int) then (if ((l0.length : Int) : Int).toNat ≤ 35184372088832 then (spec_l02Inverse.l0 k (List.replicate ((l0.length : Int) : Int).toNat 0) l0 (l0.length : Int) 0) else (none)) else (none)) = some r := h
  clear h
  by_cases c2 : 0 ≤ (l0.length : Int)
  · rw [if_pos c2] at H
    have c2b0 := eq_true c2
    have c2b1 : decide (0 ≤ (l0.length : Int)) = true := decide_eq_true c2
    clear c2
    by_cases c3 : ((l0.length : Int) : Int).toNat ≤ 35184372088832
    · rw [if_pos c3] at H
      have c3b0 := eq_true c3
      have c3b1 : decide (((l0.length : Int) : Int).toNat ≤ 35184372088832) = true := decide_eq_true c3
      clear c3
      obtain ⟨y165, hy165⟩ : ∃ y_ : List Int, y_ = (List.replicate ((l0.length : Int) : Int).toNat 0) := ⟨_, rfl⟩
      replace H : (spec_l02Inverse.l0 k y165 l0 (l0.length : Int) 0) = some r := by first | (rw [hy165]; with_reducible exact H) | (have H2_ := (Option.bind_some _ _).symm.trans H; rw [hy165]; with_reducible exact H2_) | (have H2_ := (Option.bind_some _ _).symm.trans H; with_reducible exact H2_) | with_reducible exact H | (rw [hy165]; exact H) | exact H
      have Ny165 := Aside0.mk hy165
      clear hy165
      have H' := Aside0.mk H
      clear H
      go_enter Try.func83, Try.ntmps83
      go_wp2_with (first | ((with_reducible refine gate_dst (N := 8) rfl ?_); refine Kd.R_make (Kd.int .i64) _ 3 rfl (N := 8) rfl 29 _ _ rfl (l0.length : Int) rfl rfl Try.underlying29 (.int .i64 0) 8 info3 rfl (by decide) (by omega) 0 (ok := fun _ => True) (okp := fun _ => True) rfl (fun _ hk => hk) trivial (of_decide_eq_true (by first | (with_reducible assumption) | assumption)) (Nat.le_trans (Nat.mul_le_mul_right _ (of_decide_eq_true (by first | (with_reducible assumption) | assumption) : (l0.length : Int).toNat ≤ 35184372088832)) (by omega)) (Below.refl _ _) (Nat.le_refl _) ?_; intro v166 w4 ho5 hb hg_ hnew_; clear hg_ hnew_; (first | rw [← Ny165.out] at ho5 | (simp only [Int.reduceToNat] at ho5; rw [← Ny165.out] at ho5)); have n0_ := Aside0.mk (Kd.R_lower ho5 (below_size (by repeat (first | (with_reducible first | exact HB.out | apply below_alloc | apply pw_below_drewN | apply below_drew1) | exact HB.out)))); have n1_ := Aside0.mk (below_step (by repeat (first | (with_reducible first | exact HB.out | apply below_alloc | apply pw_below_drewN | apply below_drew1) | exact HB.out)) hb); clear HB; have HO167 := n0_; have HB := n1_; clear n0_ n1_; clear hb ho5))
      go_loopg [11] k (fun kq v11 w' => ∃ (x3_1 : List Int) (x11_1 : Int), v11 = .int .i64 x11_1 ∧ Aside0 (spec_l02Inverse.l0 kq x3_1 l0 (l0.length : Int) x11_1 = some r) ∧ Aside0 (kq ≤ k) ∧ Aside0 (Kd.R (Kd.int .i64) 3 w' w.heap.size (fun _ => True) v166 x3_1) ∧ Aside0 (Below w.heap.size w w'))
      case atStart => exact ⟨(y165), (0), (by first | rfl | (simp; done) | (simp [*]; done)), H', ⟨Nat.le_refl _⟩, ⟨by (with_reducible repeat (first | apply Kd.R_alloc | apply Kd.R_drewN | apply Kd.R_drew)); exact HO167.out⟩, ⟨by repeat (first | (with_reducible first | exact HB.out | apply below_alloc | apply pw_below_drewN | apply below_drew1) | exact HB.out)⟩⟩
      case round =>
        clear H'
        try clear c2
        try clear c2b0
        try clear c2b1
        try clear p2
        try clear c3
        try clear c3b0
        try clear c3b1
        obtain ⟨x3_1, x11_1, rfl, HA, HK1, HO_3, HB⟩ := hrel
        cases gk with
        | zero => exact absurd HA.out (by simp [spec_l02Inverse.l0])
        | succ k1 =>
          have H := HA.out
          clear HA
          simp only [spec_l02Inverse.l0] at H
          by_cases c6 : x11_1 < (l0.length : Int)
          · rw [if_pos c6] at H
            have c6b0 : decide (x11_1 < (l0.length : Int)) = true := decide_eq_true c6
            clear c6
            by_cases c7 : 0 ≤ x11_1
            · rw [if_pos c7] at H
              have c7b0 : decide (0 ≤ x11_1) = true := decide_eq_true c7
              clear c7
              by_cases c8 : x11_1 < (l0.length : Int)
              · rw [if_pos c8] at H
                have c8b0 : decide (x11_1 < (l0.length : Int)) = true := decide_eq_true c8
                clear c8
                by_cases c9 : 0 ≤ (rd l0 x11_1)
                · rw [if_pos c9] at H
                  have c9b0 : decide (0 ≤ (rd l0 x11_1)) = true := decide_eq_true c9
                  clear c9
                  by_cases c10 : (rd l0 x11_1) < (x3_1.length : Int)
                  · rw [if_pos c10] at H
                    have c10b0 : decide ((rd l0 x11_1) < (x3_1.length : Int)) = true := decide_eq_true c10
                    clear c10
                    obtain ⟨y169, hy169⟩ : ∃ y_ : List Int, y_ = (x3_1.set ((rd l0 x11_1) : Int).toNat x11_1) := ⟨_, rfl⟩
                    replace H : (spec_l02Inverse.l0 k1 y169 l0 (l0.length : Int) (wrap64 (x11_1 + 1))) = some r := by first | (rw [hy169]; with_reducible exact H) | (have H2_ := (Option.bind_some _ _).symm.trans H; rw [hy169]; with_reducible exact H2_) | (have H2_ := (Option.bind_some _ _).symm.trans H; with_reducible exact H2_) | with_reducible exact H | (rw [hy169]; exact H) | exact H
                    have Ny169 := Aside0.mk hy169
                    clear hy169
                    have H' := Aside0.mk H
                    clear H
                    have p168 : 0 ≤ (x11_1 : Int) := of_decide_eq_true (by first | (with_reducible assumption) | assumption)
                    have q168 : x11_1 < (l0.length : Int) := of_decide_eq_true (by first | (with_reducible assumption) | assumption)
                    obtain ⟨ad168, e168, hx168_0⟩ := Kd.at_int HR0.out x11_1 p168 q168
                    cases e168
                    replace hx168_0 := (HB.out.cell (World.block_lt_of_cell? w _ hx168_0)).trans hx168_0
                    replace p168 := eq_true p168
                    replace q168 := eq_true q168
                    have p11 : 0 ≤ ((rd l0 x11_1) : Int) := of_decide_eq_true (by first | (with_reducible assumption) | assumption)
                    have q11 : ((rd l0 x11_1) : Int) < ((x3_1.length : Int) : Int) := of_decide_eq_true (by first | (with_reducible assumption) | assumption)
                    obtain ⟨go11, co11, eo11, gb11, gl11, cl11, HG11⟩ := Kd.R_form HO_3.out (by omega)
                    (first | cases eo11 | (injection eo11 with ea_ en_ ec_; (first | subst ea_ | (injection ea_ with ea_; subst ea_)); subst ec_; clear en_))
                    have GB11 := Aside0.mk gb11
                    have GG11 := Aside0.mk HG11
                    clear gb11 gl11 HG11
                    obtain ⟨hx11_0, hf11_0⟩ := Kd.R_celln 0 HO_3.out ((rd l0 x11_1) : Int) p11 q11
                    replace p11 := eq_true p11
                    replace q11 := eq_true q11
                    have HP12 := Kd.R_putg HO_3.out ((rd l0 x11_1) : Int) x11_1
                    go_wp2_with (first | ((with_reducible refine gate_store (t := 3) (p := 19) rfl ?_); refine store_event (t := 3) (p := 19) (v := ?vo_w13) (w1 := (wr.setCell ⟨go11, ((rd l0 x11_1) : Int).toNat, none⟩ (.int .i64 x11_1))) ?hg ?ho ?hn ?hr ?_; (case ho => rfl); (case hg => rfl); (case hn => rfl); (case hr => first | (go_simp; done) | (go_simp; rfl)); intro w13 hw; have hg : wr.grownBy w13 (some go11) := (by rw [hw]; exact HP12.2); have hp_ : Kd.R (Kd.int .i64) 3 w13 w.heap.size (fun _ => True) (.slice (some ⟨go11, 0, none⟩) x3_1.length co11) y169 := (by rw [hw, Ny169.out]; exact HP12.1); clear HP12; have n0_ := Aside0.mk (hp_); have n1_ := Aside0.mk ((by rw [hw]; exact below_set (HB.out) GB11.out : Below w.heap.size w w13)); clear HO_3; clear HB; have HO_3 := n0_; have HB := n1_; clear n0_ n1_; clear hg hw hp_))
                    go_roundg k1
                    case measure => have := HK1.out; omega
                    case rel => exact ⟨(y169), (wrap64 (x11_1 + 1)), (by first | rfl | (simp; done) | (simp [*]; done)), H', ⟨by have := HK1.out; omega⟩, ⟨by (with_reducible repeat (first | apply Kd.R_alloc | apply Kd.R_drewN | apply Kd.R_drew)); exact HO_3.out⟩, ⟨by repeat (first | (with_reducible first | exact HB.out | apply below_alloc | apply pw_below_drewN | apply below_drew1) | exact HB.out)⟩⟩
                  · rw [if_neg c10] at H
                    exact absurd H (by simp)
                · rw [if_neg c9] at H
                  exact absurd H (by simp)
              · rw [if_neg c8] at H
                exact absurd H (by simp)
            · rw [if_neg c7] at H
              exact absurd H (by simp)
          · rw [if_neg c6] at H
            have c6b0 : decide (x11_1 < (l0.length : Int)) = false := decide_eq_false c6
            clear c6
            obtain rfl := Option.some.inj H
            go_wp2
            go_ret
            exact ⟨_, by first | rfl | (simp [errW_none, errW_some] <;> rfl) | (simp [*, errW_none, errW_some] <;> rfl), by (with_reducible repeat (first | apply Kd.R_alloc | apply Kd.R_drewN | apply Kd.R_drew)); exact HO_3.out, by repeat (first | (with_reducible first | exact HB.out | apply below_alloc | apply pw_below_drewN | apply below_drew1) | exact HB.out)⟩
    · rw [if_neg c3] at H
      exact absurd H (by simp)
  · rw [if_neg c2] at H
    exact absurd H (by simp)
end Go.Proofs.Ytlbcafniodfdgaa.A
end
section
/- What every law does with its arguments; inverses. No conditions. -/
namespace Go.Proofs.Ytlbcafniodfdgaa.M
set_option linter.unusedVariables false
set_option linter.unusedSimpArgs false
open Go.RowKit Go.Proofs.YtlbcafniodfdgaaW.PrintWords Go.Proofs.YtlbcafniodfdgaaW.PrintLast Go.Proofs.YtlbcafniodfdgaaW.PrintMore Go.Proofs.Ytlbcafniodfdgaa.A
theorem rd_set {l : List Int} {i j : Nat} {x : Int} (h : i < l.length) : rd (l.set i x) (j : Int) = if i = j then x else rd l (j : Int) := by
  unfold rd
  simp only [Int.toNat_natCast]
  rw [List.getD_eq_getElem?_getD, List.getD_eq_getElem?_getD, List.getElem?_set]
  by_cases e : i = j
  · subst e
    simp [h]
  · simp [e]
theorem ext_rd {a b : List Int} (hl : a.length = b.length) (h : ∀ i : Nat, i < a.length → rd a (i : Int) = rd b (i : Int)) : a = b := by
  apply List.ext_getElem hl
  intro i h1 h2
  rw [← rd_get a i h1, ← rd_get b i h2]
  exact h i h1
theorem sz_small {r u : List Int} (h : r.length + u.length ≤ 1048576) : laws_szSurface.f r u 1048576 = some (1048576 - (r.length : Int) - (u.length : Int)) := by
  unfold laws_szSurface.f laws_szIntS.f
  have e1 : wrap64 (1048576 - (r.length : Int)) = 1048576 - (r.length : Int) := w64 (by omega) (by omega)
  have e2 : wrap64 (1048576 - (r.length : Int) - (u.length : Int)) = 1048576 - (r.length : Int) - (u.length : Int) := w64 (by omega) (by omega)
  have c1 : ¬ (1048576 - (r.length : Int) < 0) := by omega
  have c2 : ¬ (1048576 - (r.length : Int) - (u.length : Int) < 0) := by omega
  simp only [e1, c1, if_false, Option.bind_some, e2, c2]
theorem sz_big {r u : List Int} (hr : r.length ≤ 9223372036854775807) (hu : u.length ≤ 9223372036854775807) (h : ¬ r.length + u.length ≤ 1048576) : laws_szSurface.f r u 1048576 = some (-1) := by
  unfold laws_szSurface.f laws_szIntS.f
  have e1 : wrap64 (1048576 - (r.length : Int)) = 1048576 - (r.length : Int) := w64 (by omega) (by omega)
  by_cases c1 : 1048576 - (r.length : Int) < 0
  · have c3 : (-1 : Int) < 0 := by omega
    simp only [e1, c1, if_true, Option.bind_some, c3]
  · have e2 : wrap64 (1048576 - (r.length : Int) - (u.length : Int)) = 1048576 - (r.length : Int) - (u.length : Int) := w64 (by omega) (by omega)
    have c2 : 1048576 - (r.length : Int) - (u.length : Int) < 0 := by omega
    have c3 : (-1 : Int) < 0 := by omega
    simp only [e1, c1, if_false, Option.bind_some, e2, c2, if_true, c3]
theorem toInts_ev (l : List Int) (h : l.length ≤ 1048576) : Ev (fun k => laws_toIntS.f k l) l := by
  unfold laws_toIntS.f
  have h1 : (0 : Int) ≤ (l.length : Int) := by omega
  have h2 : ((l.length : Int)).toNat ≤ 35184372088832 := by omega
  simp only [h1, h2, if_true]
  have H : ∀ (d i : Nat) (c : List Int), i + d = l.length → c.length = l.length → (∀ j : Nat, j < i → rd c (j : Int) = rd l (j : Int)) → Ev (fun k => laws_toIntS.l0 k l c (i : Int)) l := by
    intro d
    induction d with
    | zero =>
      intro i c h hc hx
      refine ev_succ ?_
      have h1 : ¬ ((i : Int) < (l.length : Int)) := by omega
      have e : c = l := ext_rd hc (fun j hj => hx j (by omega))
      simp only [laws_toIntS.l0, h1, if_false]
      rw [e]
      exact Ev.now _
    | succ d ih =>
      intro i c h hc hx
      refine ev_succ ?_
      have h1 : (i : Int) < (l.length : Int) := by omega
      have h2 : (0 : Int) ≤ (i : Int) := by omega
      have h3 : (i : Int) < (c.length : Int) := by omega
      have h4 := w64s i (by omega)
      simp only [laws_toIntS.l0, h1, h2, h3, h4, if_true, Int.toNat_natCast]
      refine ih (i + 1) _ (by omega) (by rw [List.length_set]; exact hc) (fun j hj => ?_)
      rw [rd_set (by omega)]
      by_cases e : i = j
      · subst e
        simp
      · rw [if_neg e]
        exact hx j (by omega)
  exact H l.length 0 _ (by omega) (by rw [List.length_replicate]; omega) (fun j hj => by omega)
theorem toSurf_ev (r u : List Int) (hr : r.length ≤ 1048576) (hu : u.length ≤ 1048576) : Ev (fun k => laws_toSurface.f k r u) (r, u) := by
  unfold laws_toSurface.f
  exact Ev.bind (toInts_ev r hr) (Ev.bind (toInts_ev u hu) (Ev.now _))
theorem eqInts_ev (a b : List Int) (ha : a.length ≤ 9000000000000000000) : Ev (fun k => laws_eqIntS.f k a b) (decide (a = b)) := by
  unfold laws_eqIntS.f
  by_cases hl : (a.length : Int) = (b.length : Int)
  · simp only [hl, if_true]
    have hl' : a.length = b.length := by omega
    have H : ∀ d i : Nat, i + d = a.length → ∃ c, Ev (fun k => laws_eqIntS.l0 k a b (i : Int)) c ∧ (c = true ↔ ∀ j : Nat, i ≤ j → j < a.length → rd a (j : Int) = rd b (j : Int)) := by
      intro d
      induction d with
      | zero =>
        intro i h
        refine ⟨true, ev_succ ?_, by simp; intro j h1 h2; omega⟩
        have h1 : ¬ ((i : Int) < (a.length : Int)) := by omega
        simp only [laws_eqIntS.l0, h1, if_false]
        exact Ev.now _
      | succ d ih =>
        intro i h
        have h1 : (i : Int) < (a.length : Int) := by omega
        have h2 : (0 : Int) ≤ (i : Int) := by omega
        have h3 : (i : Int) < (b.length : Int) := by omega
        have h4 := w64s i (by omega)
        by_cases c : rd a (i : Int) = rd b (i : Int)
        · obtain ⟨c', i1, i2⟩ := ih (i + 1) (by omega)
          refine ⟨c', ev_succ ?_, by
            rw [i2]
            constructor
            · intro k j j1 j2
              by_cases e : j = i
              · subst e; exact c
              · exact k j (by omega) j2
            · intro k j j1 j2
              exact k j (by omega) j2⟩
          simp only [laws_eqIntS.l0, h1, h2, h3, h4, c, if_true]
          exact i1
        · refine ⟨false, ev_succ ?_, by
            simp only [Bool.false_eq_true, false_iff]
            intro k
            exact c (k i (Nat.le_refl _) (by omega))⟩
          simp only [laws_eqIntS.l0, h1, h2, h3, c, if_true, if_false]
          exact Ev.now _
    obtain ⟨c, i1, i2⟩ := H a.length 0 (by omega)
    have : decide (a = b) = c := by
      rw [Bool.eq_iff_iff, i2, decide_eq_true_iff]
      constructor
      · intro e j _ _
        rw [e]
      · intro k
        exact ext_rd hl' (fun j hj => k j (Nat.zero_le _) hj)
    rw [this]
    exact i1
  · simp only [hl, if_false]
    have : decide (a = b) = false := by
      rw [decide_eq_false_iff_not]
      intro e
      exact hl (by rw [e])
    rw [this]
    exact Ev.now _
theorem eqInts_same (a : List Int) (ha : a.length ≤ 9000000000000000000) : Ev (fun k => laws_eqIntS.f k a a) true := by
  have := eqInts_ev a a ha
  simpa using this
theorem eqSurf_same (r u : List Int) (hr : r.length ≤ 9000000000000000000) (hu : u.length ≤ 9000000000000000000) : Ev (fun k => laws_eqSurface.f k r u r u) true := by
  unfold laws_eqSurface.f
  refine Ev.bind (eqInts_same r hr) ?_
  simp only [if_true]
  refine Ev.bind (eqInts_same u hu) ?_
  simp only [if_true]
  exact Ev.now _
theorem inv_of {p c : List Nat} (hp : IsP p) (hc : c.length = p.length) (h : ∀ j, j < p.length → g c (g p j) = j) : c = inv p := by
  refine ext_g (by rw [inv_len, hc]) (fun x hx => ?_)
  rw [hc] at hx
  rw [g_inv hx]
  have := h (ix p x) (ix_lt hp hx)
  rw [g_ix hp hx] at this
  exact this
theorem inv_step {p c : List Nat} (hp : IsP p) {i : Nat} (hi : i < p.length) (hc : c.length = p.length) (h : ∀ j, j < i → g c (g p j) = j) : ∀ j, j < i + 1 → g (c.set (g p i) i) (g p j) = j := by
  intro j hj
  rw [g_set (by rw [hc]; exact g_lt hp hi)]
  by_cases e : j = i
  · subst e
    simp
  · rw [if_neg (fun k => e (g_inj hp (by omega) hi k.symm))]
    exact h j (by omega)
theorem spec_inv {p : List Nat} (hp : IsP p) (h24 : p.length ≤ 24) : Ev (fun k => spec_l02Inverse.f k (I p)) (I (inv p)) := by
  unfold spec_l02Inverse.f
  have H : ∀ (d i : Nat) (c : List Nat), i + d = p.length → c.length = p.length → (∀ j, j < i → g c (g p j) = j) → Ev (fun k => spec_l02Inverse.l0 k (I c) (I p) (p.length : Int) (i : Int)) (I (inv p)) := by
    intro d
    induction d with
    | zero =>
      intro i c h hc hx
      refine ev_succ ?_
      have h1 : ¬ ((i : Int) < (p.length : Int)) := by omega
      rw [← inv_of hp hc (fun j hj => hx j (by omega))]
      simp only [spec_l02Inverse.l0, h1, if_false]
      exact Ev.now _
    | succ d ih =>
      intro i c h hc hx
      refine ev_succ ?_
      have hi : i < p.length := by omega
      have h1 : (i : Int) < (p.length : Int) := by omega
      have h2 : (0 : Int) ≤ (i : Int) := by omega
      have h3 := w64s i (by omega)
      have h4 : (0 : Int) ≤ ((g p i : Nat) : Int) := by omega
      have h5 : ((g p i : Nat) : Int) < (c.length : Int) := by have := g_lt hp hi; omega
      simp only [spec_l02Inverse.l0, h1, h2, h3, h4, h5, rdI, I_len', I_set, if_true, Int.toNat_natCast]
      exact ih (i + 1) _ (by omega) (by rw [List.length_set]; exact hc) (inv_step hp hi hc hx)
  have h1 : (0 : Int) ≤ (p.length : Int) := by omega
  have h2 : p.length ≤ 35184372088832 := by omega
  simp only [I_len', h1, h2, if_true, Int.toNat_natCast]
  have := H p.length 0 (List.replicate p.length 0) (by omega) (by simp) (fun j hj => by omega)
  rw [I_rep] at this
  exact this
theorem impl_inv {p : List Nat} (hp : IsP p) (h24 : p.length ≤ 24) : Ev (fun k => impl_InversePerm.f k (I p)) (I (inv p)) := by
  unfold impl_InversePerm.f
  have H : ∀ (d i : Nat) (c : List Nat), i + d = p.length → c.length = p.length → (∀ j, j < i → g c (g p j) = j) → Ev (fun k => impl_InversePerm.l0 k (I c) (I p) (p.length : Int) (i : Int)) (I (inv p)) := by
    intro d
    induction d with
    | zero =>
      intro i c h hc hx
      refine ev_succ ?_
      have h1 : ¬ ((i : Int) < (p.length : Int)) := by omega
      rw [← inv_of hp hc (fun j hj => hx j (by omega))]
      simp only [impl_InversePerm.l0, h1, if_false]
      exact Ev.now _
    | succ d ih =>
      intro i c h hc hx
      refine ev_succ ?_
      have hi : i < p.length := by omega
      have h1 : (i : Int) < (p.length : Int) := by omega
      have h2 : (0 : Int) ≤ (i : Int) := by omega
      have h3 := w64s i (by omega)
      have h4 : (0 : Int) ≤ ((g p i : Nat) : Int) := by omega
      have h5 : ((g p i : Nat) : Int) < (c.length : Int) := by have := g_lt hp hi; omega
      simp only [impl_InversePerm.l0, h1, h2, h3, h4, h5, rdI, I_len', I_set, if_true, Int.toNat_natCast]
      exact ih (i + 1) _ (by omega) (by rw [List.length_set]; exact hc) (inv_step hp hi hc hx)
  refine Ev.bind (impl_permOk (I p)) ?_
  have h0 : permB (I p) = true := permB_I.mpr ⟨hp, h24⟩
  have h1 : (0 : Int) ≤ (p.length : Int) := by omega
  have h2 : p.length ≤ 35184372088832 := by omega
  simp only [h0, I_len', h1, h2, if_true, Int.toNat_natCast]
  have := H p.length 0 (List.replicate p.length 0) (by omega) (by simp) (fun j hj => by omega)
  rw [I_rep] at this
  exact this
end Go.Proofs.Ytlbcafniodfdgaa.M
end
section
/- Plain mathematics: going round a permutation. No conditions. -/
namespace Go.Proofs.Ytlbcafniodfdgaa.M
set_option linter.unusedVariables false
set_option linter.unusedSimpArgs false
def itr (p : List Nat) : Nat → Nat → Nat
  | 0, s => s
  | m + 1, s => g p (itr p m s)
theorem itr_lt {p : List Nat} (hp : IsP p) (m : Nat) {s : Nat} (hs : s < p.length) : itr p m s < p.length := by
  induction m with
  | zero => exact hs
  | succ m ih => exact g_lt hp ih
theorem itr_add (p : List Nat) (a b s : Nat) : itr p (a + b) s = itr p a (itr p b s) := by
  induction a with
  | zero => simp [itr]
  | succ a ih =>
    have e : a + 1 + b = (a + b) + 1 := by omega
    rw [e, itr, itr, ih]
theorem itr_back {p : List Nat} (hp : IsP p) {s : Nat} (hs : s < p.length) (i d : Nat) (h : itr p (i + d) s = itr p i s) : itr p d s = s := by
  induction i with
  | zero =>
    have e : 0 + d = d := by omega
    rw [e] at h
    exact h
  | succ i ih =>
    have e : i + 1 + d = (i + d) + 1 := by omega
    rw [e] at h
    exact ih (g_inj hp (itr_lt hp _ hs) (itr_lt hp _ hs) h)
theorem period {p : List Nat} (hp : IsP p) {s : Nat} (hs : s < p.length) : ∃ m, 1 ≤ m ∧ m ≤ p.length ∧ itr p m s = s := by
  apply Classical.byContradiction
  intro hn
  have hd : ((List.range (p.length + 1)).map (fun m => itr p m s)).Nodup := by
    refine List.pairwise_map.mpr ?_
    refine List.pairwise_iff_getElem.mpr ?_
    intro i j hi hj hij
    rw [List.length_range] at hi hj
    rw [List.getElem_range, List.getElem_range]
    intro e
    have : itr p (j - i) s = s := itr_back hp hs i (j - i) (by
      have e2 : i + (j - i) = j := by omega
      rw [e2]
      exact e.symm)
    exact hn ⟨j - i, by omega, by omega, this⟩
  have := nodup_le p.length _ hd (fun x hx => by
    obtain ⟨m, _, rfl⟩ := List.mem_map.mp hx
    exact itr_lt hp m hs)
  simp at this
  omega
def per (p : List Nat) (s : Nat) : Nat := (((List.range p.length).find? (fun m => itr p (m + 1) s == s)).getD 0) + 1
theorem per_spec {p : List Nat} (hp : IsP p) {s : Nat} (hs : s < p.length) : itr p (per p s) s = s ∧ per p s ≤ p.length ∧ ∀ m, 1 ≤ m → m < per p s → itr p m s ≠ s := by
  obtain ⟨m, m1, m2, m3⟩ := period hp hs
  unfold per
  cases h : (List.range p.length).find? (fun m => itr p (m + 1) s == s) with
  | none =>
    have := List.find?_eq_none.mp h (m - 1) (List.mem_range.mpr (by omega))
    have e : m - 1 + 1 = m := by omega
    rw [e, m3] at this
    simp at this
  | some a =>
    simp only [Option.getD_some]
    have h1 := List.find?_some h
    have h2 := List.mem_of_find?_eq_some h
    rw [List.mem_range] at h2
    refine ⟨by simpa using h1, by omega, fun m hm1 hm2 e => ?_⟩
    obtain ⟨_, as1, bs1, hb, hn⟩ := List.find?_eq_some_iff_append.mp h
    have hm : m - 1 ∈ as1 := by
      have hl : as1.length = a := by
        have e1 : (List.range p.length)[as1.length]? = some a := by rw [hb]; simp
        have := List.getElem?_eq_some_iff.mp e1
        obtain ⟨_, e2⟩ := this
        rw [List.getElem_range] at e2
        exact e2
      have e1 : (List.range p.length)[m - 1]? = some (m - 1) := by
        rw [List.getElem?_range]
        omega
      rw [hb, List.getElem?_append_left (by omega)] at e1
      exact List.mem_of_getElem? e1
    have := hn _ hm
    have e3 : m - 1 + 1 = m := by omega
    rw [e3, e] at this
    simp at this
theorem per_pos (p : List Nat) (s : Nat) : 1 ≤ per p s := by unfold per; omega
def orbTo (p : List Nat) (s m : Nat) : List Nat := (List.range m).map (fun k => itr p k s)
def orb (p : List Nat) (s : Nat) : List Nat := orbTo p s (per p s)
theorem mem_orbTo {p : List Nat} {s m x : Nat} : x ∈ orbTo p s m ↔ ∃ k, k < m ∧ itr p k s = x := by
  unfold orbTo
  simp
theorem orbTo_snoc (p : List Nat) (s m : Nat) : orbTo p s m ++ [itr p m s] = orbTo p s (m + 1) := by
  unfold orbTo
  rw [List.range_succ]
  simp
theorem orb_close {p : List Nat} (hp : IsP p) {s m : Nat} (hs : s < p.length) (hm : m < per p s) (h1 : 1 ≤ m) : itr p m s ∉ orbTo p s m := by
  intro h
  obtain ⟨k, hk, e⟩ := mem_orbTo.mp h
  have : itr p (m - k) s = s := itr_back hp hs k (m - k) (by
    have e2 : k + (m - k) = m := by omega
    rw [e2]
    exact e.symm)
  exact (per_spec hp hs).2.2 (m - k) (by omega) (by omega) this
theorem mem_orb {p : List Nat} (hp : IsP p) {s : Nat} (hs : s < p.length) {x : Nat} : x ∈ orb p s ↔ ∃ k, itr p k s = x := by
  constructor
  · intro h
    obtain ⟨k, _, e⟩ := mem_orbTo.mp h
    exact ⟨k, e⟩
  · intro ⟨k, e⟩
    have hper := per_spec hp hs
    have hpos := per_pos p s
    have hmod : ∀ k, itr p (k % per p s) s = itr p k s := by
      intro k
      have e1 : k % per p s + per p s * (k / per p s) = k := Nat.mod_add_div k (per p s)
      have hz : ∀ j, itr p (per p s * j) s = s := by
        intro j
        induction j with
        | zero => rfl
        | succ j ih =>
          have : per p s * (j + 1) = per p s * j + per p s := by rw [Nat.mul_add, Nat.mul_one]
          rw [this, itr_add, hper.1, ih]
      conv => rhs; rw [← e1]
      rw [itr_add, hz]
    exact mem_orbTo.mpr ⟨k % per p s, Nat.mod_lt _ (by omega), by rw [hmod, e]⟩
theorem orb_self {p : List Nat} (hp : IsP p) {s : Nat} (hs : s < p.length) : s ∈ orb p s := (mem_orb hp hs).mpr ⟨0, rfl⟩
theorem orb_lt {p : List Nat} (hp : IsP p) {s : Nat} (hs : s < p.length) {x : Nat} (h : x ∈ orb p s) : x < p.length := by
  obtain ⟨k, rfl⟩ := (mem_orb hp hs).mp h
  exact itr_lt hp k hs
theorem orb_sym {p : List Nat} (hp : IsP p) {s : Nat} (hs : s < p.length) {x : Nat} (h : x ∈ orb p s) : s ∈ orb p x := by
  obtain ⟨k, hk, e⟩ := mem_orbTo.mp h
  have hx := orb_lt hp hs h
  refine (mem_orb hp hx).mpr ⟨per p s - k, ?_⟩
  rw [← e, ← itr_add]
  have : per p s - k + k = per p s := by omega
  rw [this]
  exact (per_spec hp hs).1
theorem orb_trans {p : List Nat} (hp : IsP p) {s : Nat} (hs : s < p.length) {x y : Nat} (h : x ∈ orb p s) (k : y ∈ orb p x) : y ∈ orb p s := by
  have hx := orb_lt hp hs h
  obtain ⟨a, rfl⟩ := (mem_orb hp hs).mp h
  obtain ⟨b, rfl⟩ := (mem_orb hp hx).mp k
  exact (mem_orb hp hs).mpr ⟨b + a, itr_add p b a s⟩
def cyc (p : List Nat) : Nat → List (List Nat)
  | 0 => []
  | i + 1 => if ∃ c ∈ cyc p i, i ∈ c then cyc p i else cyc p i ++ [orb p i]
def cycles (p : List Nat) : List (List Nat) := cyc p p.length
theorem cyc_form (p : List Nat) (i : Nat) : ∀ c ∈ cyc p i, ∃ s, s < i ∧ c = orb p s := by
  induction i with
  | zero => intro c h; simp [cyc] at h
  | succ i ih =>
    intro c h
    unfold cyc at h
    split at h
    · obtain ⟨s, h1, h2⟩ := ih c h
      exact ⟨s, by omega, h2⟩
    · rcases List.mem_append.mp h with h | h
      · obtain ⟨s, h1, h2⟩ := ih c h
        exact ⟨s, by omega, h2⟩
      · exact ⟨i, by omega, by simpa using h⟩
theorem cyc_all {p : List Nat} (hp : IsP p) (i : Nat) (hi : i ≤ p.length) : ∀ x, x < i → ∃ c ∈ cyc p i, x ∈ c := by
  induction i with
  | zero => intro x h; omega
  | succ i ih =>
    intro x h
    unfold cyc
    by_cases e : x = i
    · subst e
      split
      · assumption
      · exact ⟨orb p x, by simp, orb_self hp (by omega)⟩
    · obtain ⟨c, h1, h2⟩ := ih (by omega) x (by omega)
      split
      · exact ⟨c, h1, h2⟩
      · exact ⟨c, List.mem_append.mpr (.inl h1), h2⟩
theorem orb_meet {p : List Nat} (hp : IsP p) {s t x : Nat} (hs : s < p.length) (ht : t < p.length) (h1 : x ∈ orb p s) (h2 : x ∈ orb p t) : t ∈ orb p s :=
  orb_trans hp hs h1 (orb_sym hp ht h2)
theorem cyc_new {p : List Nat} (hp : IsP p) {i : Nat} (hi : i < p.length) (h : ¬ ∃ c ∈ cyc p i, i ∈ c) {x : Nat} (hx : x ∈ orb p i) : ¬ ∃ c ∈ cyc p i, x ∈ c := by
  intro ⟨c, hc, hm⟩
  obtain ⟨s, hs, rfl⟩ := cyc_form p i c hc
  exact h ⟨_, hc, orb_meet hp (by omega) hi hm hx⟩
end Go.Proofs.Ytlbcafniodfdgaa.M
end
section
/- Cycles: the program and the reference answer alike. No conditions. -/
namespace Go.Proofs.Ytlbcafniodfdgaa.M
set_option linter.unusedVariables false
set_option linter.unusedSimpArgs false
open Go.RowKit Go.Proofs.YtlbcafniodfdgaaW.PrintWords Go.Proofs.YtlbcafniodfdgaaW.PrintLast Go.Proofs.YtlbcafniodfdgaaW.PrintMore Go.Proofs.Ytlbcafniodfdgaa.A
def I2 (l : List (List Nat)) : List (List Int) := l.map I
theorem I2_len (l : List (List Nat)) : (I2 l).length = l.length := by simp [I2]
theorem I2_snoc (l : List (List Nat)) (c : List Nat) : I2 l ++ [I c] = I2 (l ++ [c]) := by simp [I2]
theorem cyc_len (p : List Nat) (i : Nat) : (cyc p i).length ≤ i := by
  induction i with
  | zero => simp [cyc]
  | succ i ih =>
    unfold cyc
    split
    · omega
    · simp
      omega
theorem orbTo_len (p : List Nat) (s m : Nat) : (orbTo p s m).length = m := by simp [orbTo]
theorem mem_flat {l : List (List Nat)} {x : Nat} : x ∈ l.flatten ↔ ∃ c ∈ l, x ∈ c := by simp
theorem cyc_next {p : List Nat} (hp : IsP p) {i m : Nat} (hi : i < p.length) (hnew : ¬ ∃ c ∈ cyc p i, i ∈ c) (hm : m < per p i) : itr p m i ∉ (cyc p i).flatten ++ orbTo p i m := by
  intro h
  rcases List.mem_append.mp h with h | h
  · exact cyc_new hp hi hnew ((mem_orb hp hi).mpr ⟨m, rfl⟩) (mem_flat.mp h)
  · by_cases e : m = 0
    · subst e
      simp [orbTo] at h
    · exact orb_close hp hi hm (by omega) h
theorem cyc_shut {p : List Nat} (hp : IsP p) {i : Nat} (hi : i < p.length) : itr p (per p i) i ∈ (cyc p i).flatten ++ orbTo p i (per p i) := by
  rw [(per_spec hp hi).1]
  exact List.mem_append.mpr (.inr (orb_self hp hi))
theorem cyc_succ_new {p : List Nat} {i : Nat} (hnew : ¬ ∃ c ∈ cyc p i, i ∈ c) : cyc p (i + 1) = cyc p i ++ [orb p i] := by
  rw [cyc, if_neg hnew]
theorem cyc_succ_old {p : List Nat} {i : Nat} (h : ∃ c ∈ cyc p i, i ∈ c) : cyc p (i + 1) = cyc p i := by
  rw [cyc, if_pos h]
theorem marks_rep (n : Nat) : Marks n (List.replicate n false) ([] : List Nat) := by
  refine ⟨by simp, fun x hx => ?_⟩
  rw [List.getD_eq_getElem?_getD, List.getElem?_replicate]
  simp [hx]
theorem itr_succ (p : List Nat) (m s : Nat) : g p (itr p m s) = itr p (m + 1) s := rfl
theorem impl_cycles {p : List Nat} (hp : IsP p) (h24 : p.length ≤ 24) : Ev (fun k => impl_CyclesOf.f k (I p)) (I2 (cycles p)) := by
  unfold impl_CyclesOf.f
  refine Ev.bind (impl_permOk (I p)) ?_
  have h0 : permB (I p) = true := permB_I.mpr ⟨hp, h24⟩
  have h1 : (0 : Int) ≤ (p.length : Int) := by omega
  have h2 : p.length ≤ 281474976710656 := by omega
  simp only [h0, I_len', h1, h2, if_true, Int.toNat_natCast]
  have H : ∀ (d i : Nat) (s : List Bool), i + d = p.length → Marks p.length s (cyc p i).flatten → Ev (fun k => impl_CyclesOf.l0 k (I p) s (I2 (cyc p i)) (p.length : Int) (i : Int)) (I2 (cycles p)) := by
    intro d
    induction d with
    | zero =>
      intro i s h hm
      obtain rfl : i = p.length := by omega
      refine ev_succ ?_
      have h1 : ¬ ((p.length : Int) < (p.length : Int)) := by omega
      simp only [impl_CyclesOf.l0, h1, if_false]
      exact Ev.now _
    | succ d ih =>
      intro i s h hm
      have hi : i < p.length := by omega
      have c1 : (i : Int) < (p.length : Int) := by omega
      have c2 : (0 : Int) ≤ (i : Int) := by omega
      have c3 : (i : Int) < (s.length : Int) := by have := hm.1; omega
      have h3 := w64s i (by omega)
      refine ev_succ ?_
      by_cases hs : s.getD i false = true
      · have ho := mem_flat.mp ((hm.2 i hi).mp hs)
        simp only [impl_CyclesOf.l0, c1, c2, c3, rdOf_nat, hs, if_true, h3]
        have := ih (i + 1) s (by omega) (by rw [cyc_succ_old ho]; exact hm)
        rw [cyc_succ_old ho] at this
        exact this
      · have hnew : ¬ ∃ c ∈ cyc p i, i ∈ c := fun h => hs ((hm.2 i hi).mpr (mem_flat.mpr h))
        simp only [impl_CyclesOf.l0, c1, c2, c3, rdOf_nat, hs, if_true, if_false]
        have G : ∀ (e m : Nat) (t : List Bool), m + e = per p i → Marks p.length t ((cyc p i).flatten ++ orbTo p i m) → Ev (fun k => impl_CyclesOf.l1 k (I p) t (I2 (cyc p i)) (I (orbTo p i m)) ((itr p m i : Nat) : Int) (p.length : Int) (i : Int)) (I2 (cycles p)) := by
          intro e
          induction e with
          | zero =>
            intro m t he ht
            obtain rfl : m = per p i := by omega
            refine ev_succ ?_
            have hx := itr_lt hp (per p i) hi
            have d1 : (0 : Int) ≤ ((itr p (per p i) i : Nat) : Int) := by omega
            have d2 : ((itr p (per p i) i : Nat) : Int) < (t.length : Int) := by have := ht.1; omega
            have d3 := (ht.2 _ hx).mpr (cyc_shut hp hi)
            have d4 : (I2 (cyc p i)).length < 5864062014805 := by rw [I2_len]; have := cyc_len p i; omega
            simp only [impl_CyclesOf.l1, d1, d2, rdOf_nat, d3, d4, if_true, h3]
            have := ih (i + 1) t (by omega) (by rw [cyc_succ_new hnew]; simpa [orb] using ht)
            rw [cyc_succ_new hnew, ← I2_snoc] at this
            exact this
          | succ e ihe =>
            intro m t he ht
            refine ev_succ ?_
            have hx := itr_lt hp m hi
            have hn := cyc_next hp hi hnew (m := m) (by omega)
            have d1 : (0 : Int) ≤ ((itr p m i : Nat) : Int) := by omega
            have d2 : ((itr p m i : Nat) : Int) < (t.length : Int) := by have := ht.1; omega
            have d3 : ¬ t.getD (itr p m i) false = true := fun k => hn ((ht.2 _ hx).mp k)
            have d4 : (I (orbTo p i m)).length < 17592186044416 := by rw [I_len, orbTo_len]; have := (per_spec hp hi).2.1; omega
            have d5 : ((itr p m i : Nat) : Int) < (p.length : Int) := by omega
            simp only [impl_CyclesOf.l1, d1, d2, rdOf_nat, d3, d4, d5, I_len', if_true, if_false, rdI, Int.toNat_natCast, I_snoc, orbTo_snoc]
            have := ihe (m + 1) (t.set (itr p m i) true) (by omega) (by
              have := ht.add hx
              rw [List.append_assoc, orbTo_snoc] at this
              exact this)
            exact this
        have := G (per p i) 0 s (by omega) (by simpa [orbTo] using hm)
        exact this
  exact H p.length 0 _ (by omega) (by simpa [cyc] using marks_rep p.length)
theorem spec_cycles {p : List Nat} (hp : IsP p) (h24 : p.length ≤ 24) : Ev (fun k => spec_CyclesOf.f k (I p)) (I2 (cycles p)) := by
  unfold spec_CyclesOf.f
  refine Ev.bind (spec_permOk (I p)) ?_
  have h0 : permB (I p) = true := permB_I.mpr ⟨hp, h24⟩
  have h1 : (0 : Int) ≤ (p.length : Int) := by omega
  have h2 : p.length ≤ 281474976710656 := by omega
  simp only [h0, I_len', h1, h2, if_true, Int.toNat_natCast]
  have H : ∀ (d i : Nat) (s : List Bool), i + d = p.length → Marks p.length s (cyc p i).flatten → Ev (fun k => spec_CyclesOf.l0 k (I p) (I2 (cyc p i)) s (p.length : Int) (i : Int)) (I2 (cycles p)) := by
    intro d
    induction d with
    | zero =>
      intro i s h hm
      obtain rfl : i = p.length := by omega
      refine ev_succ ?_
      have h1 : ¬ ((p.length : Int) < (p.length : Int)) := by omega
      simp only [spec_CyclesOf.l0, h1, if_false]
      exact Ev.now _
    | succ d ih =>
      intro i s h hm
      have hi : i < p.length := by omega
      have c1 : (i : Int) < (p.length : Int) := by omega
      have c2 : (0 : Int) ≤ (i : Int) := by omega
      have c3 : (i : Int) < (s.length : Int) := by have := hm.1; omega
      have h3 := w64s i (by omega)
      refine ev_succ ?_
      simp only [spec_CyclesOf.l0, c1, if_true]
      by_cases hs : s.getD i false = true
      · have ho := mem_flat.mp ((hm.2 i hi).mp hs)
        refine ev_succ ?_
        have d0 : ¬ ((([] : List Int).length : Int) > 0) := by simp
        simp only [spec_CyclesOf.l1, c2, c3, rdOf_nat, hs, if_true, d0, if_false, h3]
        have := ih (i + 1) s (by omega) (by rw [cyc_succ_old ho]; exact hm)
        rw [cyc_succ_old ho] at this
        exact this
      · have hnew : ¬ ∃ c ∈ cyc p i, i ∈ c := fun h => hs ((hm.2 i hi).mpr (mem_flat.mpr h))
        have G : ∀ (e m : Nat) (t : List Bool), m + e = per p i → Marks p.length t ((cyc p i).flatten ++ orbTo p i m) → Ev (fun k => spec_CyclesOf.l1 k (I p) (I2 (cyc p i)) t (I (orbTo p i m)) ((itr p m i : Nat) : Int) (p.length : Int) (i : Int)) (I2 (cycles p)) := by
          intro e
          induction e with
          | zero =>
            intro m t he ht
            obtain rfl : m = per p i := by omega
            refine ev_succ ?_
            have hx := itr_lt hp (per p i) hi
            have hper := per_pos p i
            have d1 : (0 : Int) ≤ ((itr p (per p i) i : Nat) : Int) := by omega
            have d2 : ((itr p (per p i) i : Nat) : Int) < (t.length : Int) := by have := ht.1; omega
            have d3 := (ht.2 _ hx).mpr (cyc_shut hp hi)
            have d4 : (I2 (cyc p i)).length < 5864062014805 := by rw [I2_len]; have := cyc_len p i; omega
            have d0 : ((I (orbTo p i (per p i))).length : Int) > 0 := by rw [I_len, orbTo_len]; omega
            simp only [spec_CyclesOf.l1, d1, d2, rdOf_nat, d3, d4, d0, if_true, h3]
            have := ih (i + 1) t (by omega) (by rw [cyc_succ_new hnew]; simpa [orb] using ht)
            rw [cyc_succ_new hnew, ← I2_snoc] at this
            exact this
          | succ e ihe =>
            intro m t he ht
            refine ev_succ ?_
            have hx := itr_lt hp m hi
            have hn := cyc_next hp hi hnew (m := m) (by omega)
            have d1 : (0 : Int) ≤ ((itr p m i : Nat) : Int) := by omega
            have d2 : ((itr p m i : Nat) : Int) < (t.length : Int) := by have := ht.1; omega
            have d3 : ¬ t.getD (itr p m i) false = true := fun k => hn ((ht.2 _ hx).mp k)
            have d4 : (I (orbTo p i m)).length < 17592186044416 := by rw [I_len, orbTo_len]; have := (per_spec hp hi).2.1; omega
            have d5 : ((itr p m i : Nat) : Int) < (p.length : Int) := by omega
            simp only [spec_CyclesOf.l1, d1, d2, rdOf_nat, d3, d4, d5, I_len', if_true, if_false, rdI, Int.toNat_natCast, I_snoc, orbTo_snoc]
            have := ihe (m + 1) (t.set (itr p m i) true) (by omega) (by
              have := ht.add hx
              rw [List.append_assoc, orbTo_snoc] at this
              exact this)
            exact this
        have := G (per p i) 0 s (by omega) (by simpa [orbTo] using hm)
        exact this
  exact H p.length 0 _ (by omega) (by simpa [cyc] using marks_rep p.length)
end Go.Proofs.Ytlbcafniodfdgaa.M
end
section
/- Marks that laws lay and look for. No conditions. -/
namespace Go.Proofs.Ytlbcafniodfdgaa.M
set_option linter.unusedVariables false
set_option linter.unusedSimpArgs false
open Go.RowKit Go.Proofs.YtlbcafniodfdgaaW.PrintWords Go.Proofs.YtlbcafniodfdgaaW.PrintLast Go.Proofs.YtlbcafniodfdgaaW.PrintMore Go.Proofs.Ytlbcafniodfdgaa.A
def markL (n : Nat) (a : Int) : List Int := (List.range n).map (fun (i : Nat) => a + (i : Int))
theorem markL_len (n : Nat) (a : Int) : (markL n a).length = n := by simp [markL]
theorem rd_markL {n i : Nat} {a : Int} (h : i < n) : rd (markL n a) (i : Int) = a + (i : Int) := by
  rw [rd_get _ i (by rw [markL_len]; exact h)]
  simp [markL]
theorem w64a (a : Int) (i : Nat) (h0 : 0 ≤ a) (h : a + (i : Int) ≤ 9000000000000000000) : wrap64 (a + (i : Int) + 1) = a + ((i + 1 : Nat) : Int) := by rw [w64 (by omega) (by omega)]; omega
theorem mark_ev (l : List Int) (a : Int) (h0 : 0 ≤ a) (h : a + (l.length : Int) ≤ 9000000000000000000) : Ev (fun k => laws_markIntS.f k l a) (a + (l.length : Int), markL l.length a) := by
  unfold laws_markIntS.f
  have H : ∀ (d i : Nat) (c : List Int), i + d = l.length → c.length = l.length → (∀ j : Nat, j < i → rd c (j : Int) = a + (j : Int)) → Ev (fun k => laws_markIntS.l0 k c (a + (i : Int)) (i : Int)) (a + (l.length : Int), markL l.length a) := by
    intro d
    induction d with
    | zero =>
      intro i c hi hc hx
      refine ev_succ ?_
      have h1 : ¬ ((i : Int) < (c.length : Int)) := by omega
      have e : c = markL l.length a := ext_rd (by rw [markL_len]; exact hc) (fun j hj => by rw [hx j (by omega), rd_markL (by omega)])
      have e2 : i = l.length := by omega
      simp only [laws_markIntS.l0, h1, if_false]
      rw [e, e2]
      exact Ev.now _
    | succ d ih =>
      intro i c hi hc hx
      refine ev_succ ?_
      have h1 : (i : Int) < (c.length : Int) := by omega
      have h2 : (0 : Int) ≤ (i : Int) := by omega
      have h3 := w64s i (by omega)
      have h4 := w64a a i h0 (by omega)
      simp only [laws_markIntS.l0, h1, h2, h3, h4, if_true, Int.toNat_natCast]
      refine ih (i + 1) _ (by omega) (by rw [List.length_set]; exact hc) (fun j hj => ?_)
      rw [rd_set (by omega)]
      by_cases e : i = j
      · subst e
        simp
      · rw [if_neg e]
        exact hx j (by omega)
  have := H l.length 0 l (by omega) rfl (fun j hj => by omega)
  simpa using this
theorem held_ev (n : Nat) (a : Int) (h0 : 0 ≤ a) (h : a + (n : Int) ≤ 9000000000000000000) : Ev (fun k => laws_heldIntS.f k (markL n a) a) (a + (n : Int)) := by
  unfold laws_heldIntS.f
  have H : ∀ d i : Nat, i + d = n → Ev (fun k => laws_heldIntS.l0 k (markL n a) (a + (i : Int)) (i : Int)) (a + (n : Int)) := by
    intro d
    induction d with
    | zero =>
      intro i hi
      obtain rfl : i = n := by omega
      refine ev_succ ?_
      have h1 : ¬ ((i : Int) < ((markL i a).length : Int)) := by rw [markL_len]; omega
      simp only [laws_heldIntS.l0, h1, if_false]
      exact Ev.now _
    | succ d ih =>
      intro i hi
      refine ev_succ ?_
      have h1 : (i : Int) < ((markL n a).length : Int) := by rw [markL_len]; omega
      have h2 : (0 : Int) ≤ (i : Int) := by omega
      have h3 := w64s i (by omega)
      have h4 := w64a a i h0 (by omega)
      have h5 := rd_markL (n := n) (i := i) (a := a) (by omega)
      simp only [laws_heldIntS.l0, h1, h2, h3, h4, h5, if_true]
      exact ih (i + 1) (by omega)
  have := H n 0 (by omega)
  simpa using this
theorem markSurf_ev (r u : List Int) (h : r.length + u.length ≤ 1048576) : Ev (fun k => laws_markSurface.f k r u 1) (1 + (r.length : Int) + (u.length : Int), markL r.length 1, markL u.length (1 + (r.length : Int))) := by
  unfold laws_markSurface.f
  refine Ev.bind (mark_ev r 1 (by omega) (by omega)) ?_
  refine Ev.bind (mark_ev u (1 + (r.length : Int)) (by omega) (by omega)) ?_
  exact Ev.now _
end Go.Proofs.Ytlbcafniodfdgaa.M
end
section
/- Marks on lists of lists. No conditions. -/
namespace Go.Proofs.Ytlbcafniodfdgaa.M
set_option linter.unusedVariables false
set_option linter.unusedSimpArgs false
open Go.RowKit Go.Proofs.YtlbcafniodfdgaaW.PrintWords Go.Proofs.YtlbcafniodfdgaaW.PrintLast Go.Proofs.YtlbcafniodfdgaaW.PrintMore Go.Proofs.Ytlbcafniodfdgaa.A
def totL (xs : List (List Int)) : Nat := (xs.map List.length).sum
def mkSS : List (List Int) → Int → List (List Int)
  | [], _ => []
  | x :: xs, a => markL x.length a :: mkSS xs (a + (x.length : Int))
theorem totL_cons (x : List Int) (xs : List (List Int)) : totL (x :: xs) = x.length + totL xs := by simp [totL]
theorem mkSS_len (xs : List (List Int)) : ∀ a, (mkSS xs a).length = xs.length := by
  induction xs with
  | nil => intro a; rfl
  | cons x xs ih => intro a; simp [mkSS, ih]
theorem getD_mid {α : Type} (p : List α) (x : α) (xs : List α) (d : α) : (p ++ x :: xs).getD p.length d = x := by
  rw [List.getD_eq_getElem?_getD, List.getElem?_append_right (Nat.le_refl _)]
  simp
theorem set_mid {α : Type} (p : List α) (x y : α) (xs : List α) : (p ++ x :: xs).set p.length y = p ++ y :: xs := by
  rw [List.set_append_right _ _ (Nat.le_refl _)]
  simp
theorem snoc_app {α : Type} (p : List α) (x : α) (xs : List α) : p ++ x :: xs = (p ++ [x]) ++ xs := by simp
theorem markSS_ev (xs : List (List Int)) (a : Int) (h0 : 0 ≤ a) (h : a + (totL xs : Int) ≤ 9000000000000000000) (hl : xs.length ≤ 1000000000) : Ev (fun k => laws_markIntSS.f k xs a) (a + (totL xs : Int), mkSS xs a) := by
  unfold laws_markIntSS.f
  have H : ∀ (rest p : List (List Int)) (b : Int), 0 ≤ b → b + (totL rest : Int) ≤ 9000000000000000000 → p.length + rest.length ≤ 1000000000 → Ev (fun k => laws_markIntSS.l0 k (p ++ rest) b (p.length : Int)) (b + (totL rest : Int), p ++ mkSS rest b) := by
    intro rest
    induction rest with
    | nil =>
      intro p b hb ht hlen
      refine ev_succ ?_
      have h1 : ¬ ((p.length : Int) < ((p ++ ([] : List (List Int))).length : Int)) := by simp
      simp only [laws_markIntSS.l0, h1, if_false]
      have : b + (totL [] : Int) = b := by simp [totL]
      rw [this]
      exact Ev.now _
    | cons x rest ih =>
      intro p b hb ht hlen
      rw [totL_cons] at ht
      refine ev_succ ?_
      have h1 : (p.length : Int) < ((p ++ x :: rest).length : Int) := by simp; omega
      have h2 : (0 : Int) ≤ (p.length : Int) := by omega
      have h3 := w64s p.length (by omega)
      have h4 : rdOf ([] : List Int) (p ++ x :: rest) (p.length : Int) = x := by unfold rdOf; rw [Int.toNat_natCast]; exact getD_mid p x rest []
      simp only [laws_markIntSS.l0, h1, h2, h4, if_true, Int.toNat_natCast, set_mid]
      refine Ev.bind (mark_ev x b hb (by omega)) ?_
      simp only [h3]
      have := ih (p ++ [markL x.length b]) (b + (x.length : Int)) (by omega) (by omega) (by simp at hlen ⊢; omega)
      rw [snoc_app]
      have e : ((p ++ [markL x.length b]).length : Int) = ((p.length + 1 : Nat) : Int) := by simp
      rw [e] at this
      rw [totL_cons]
      have e2 : b + ((x.length + totL rest : Nat) : Int) = b + (x.length : Int) + (totL rest : Int) := by omega
      rw [e2]
      have e3 : p ++ mkSS (x :: rest) b = p ++ [markL x.length b] ++ mkSS rest (b + (x.length : Int)) := by simp [mkSS]
      rw [e3]
      exact this
  exact H xs [] a h0 h (by simpa using hl)
theorem heldSS_ev (xs : List (List Int)) (a : Int) (h0 : 0 ≤ a) (h : a + (totL xs : Int) ≤ 9000000000000000000) (hl : xs.length ≤ 1000000000) : Ev (fun k => laws_heldIntSS.f k (mkSS xs a) a) (a + (totL xs : Int)) := by
  unfold laws_heldIntSS.f
  have H : ∀ (rest p : List (List Int)) (b : Int), 0 ≤ b → b + (totL rest : Int) ≤ 9000000000000000000 → p.length + rest.length ≤ 1000000000 → Ev (fun k => laws_heldIntSS.l0 k (p ++ mkSS rest b) b (p.length : Int)) (b + (totL rest : Int)) := by
    intro rest
    induction rest with
    | nil =>
      intro p b hb ht hlen
      refine ev_succ ?_
      have h1 : ¬ ((p.length : Int) < ((p ++ mkSS [] b).length : Int)) := by simp [mkSS]
      simp only [laws_heldIntSS.l0, h1, if_false]
      have : b + (totL [] : Int) = b := by simp [totL]
      rw [this]
      exact Ev.now _
    | cons x rest ih =>
      intro p b hb ht hlen
      rw [totL_cons] at ht
      refine ev_succ ?_
      have h1 : (p.length : Int) < ((p ++ mkSS (x :: rest) b).length : Int) := by simp [mkSS]; omega
      have h2 : (0 : Int) ≤ (p.length : Int) := by omega
      have h3 := w64s p.length (by omega)
      have h4 : rd_L3 (p ++ mkSS (x :: rest) b) (p.length : Int) = markL x.length b := by unfold rd_L3; rw [Int.toNat_natCast]; exact getD_mid p _ _ []
      simp only [laws_heldIntSS.l0, h1, h2, h4, if_true]
      refine Ev.bind (held_ev x.length b hb (by omega)) ?_
      have h5 : ¬ (b + (x.length : Int) < 0) := by omega
      simp only [h3, h5, if_false]
      have := ih (p ++ [markL x.length b]) (b + (x.length : Int)) (by omega) (by omega) (by simp at hlen ⊢; omega)
      have e : ((p ++ [markL x.length b]).length : Int) = ((p.length + 1 : Nat) : Int) := by simp
      rw [e] at this
      rw [totL_cons]
      have e2 : b + ((x.length + totL rest : Nat) : Int) = b + (x.length : Int) + (totL rest : Int) := by omega
      rw [e2]
      have e3 : p ++ mkSS (x :: rest) b = p ++ [markL x.length b] ++ mkSS rest (b + (x.length : Int)) := by simp [mkSS]
      rw [e3]
      exact this
  exact H xs [] a h0 h (by simpa using hl)
theorem eqSS_same (xs : List (List Int)) (hl : xs.length ≤ 1000000000) (h : ∀ x ∈ xs, x.length ≤ 1000000000) : Ev (fun k => laws_eqIntSS.f k xs xs) true := by
  unfold laws_eqIntSS.f
  simp only [if_true]
  have H : ∀ (rest p : List (List Int)), p.length + rest.length ≤ 1000000000 → (∀ x ∈ rest, x.length ≤ 1000000000) → Ev (fun k => laws_eqIntSS.l0 k (p ++ rest) (p ++ rest) (p.length : Int)) true := by
    intro rest
    induction rest with
    | nil =>
      intro p hlen hx
      refine ev_succ ?_
      have h1 : ¬ ((p.length : Int) < ((p ++ ([] : List (List Int))).length : Int)) := by simp
      simp only [laws_eqIntSS.l0, h1, if_false]
      exact Ev.now _
    | cons x rest ih =>
      intro p hlen hx
      refine ev_succ ?_
      have h1 : (p.length : Int) < ((p ++ x :: rest).length : Int) := by simp; omega
      have h2 : (0 : Int) ≤ (p.length : Int) := by omega
      have h3 := w64s p.length (by omega)
      have h4 : rd_L3 (p ++ x :: rest) (p.length : Int) = x := by unfold rd_L3; rw [Int.toNat_natCast]; exact getD_mid p _ _ []
      simp only [laws_eqIntSS.l0, h1, h2, h4, if_true]
      refine Ev.bind (eqInts_same x (by have := hx x (by simp); omega)) ?_
      simp only [if_true, h3]
      rw [snoc_app]
      have := ih (p ++ [x]) (by simp at hlen ⊢; omega) (fun y hy => hx y (by simp [hy]))
      have e : ((p ++ [x]).length : Int) = ((p.length + 1 : Nat) : Int) := by simp
      rw [e] at this
      exact this
  exact H xs [] (by simpa using hl) h
theorem I2_tot (l : List (List Nat)) : totL (I2 l) = l.flatten.length := by
  unfold totL I2
  rw [List.map_map, List.length_flatten]
  congr 1
  apply List.map_congr_left
  intro x _
  simp [I_len]
end Go.Proofs.Ytlbcafniodfdgaa.M
end
section
/- Rows: the program and the reference answer alike. No conditions. -/
namespace Go.Proofs.Ytlbcafniodfdgaa.M
set_option linter.unusedVariables false
set_option linter.unusedSimpArgs false
open Go.RowKit Go.Proofs.YtlbcafniodfdgaaW.PrintWords Go.Proofs.YtlbcafniodfdgaaW.PrintLast Go.Proofs.YtlbcafniodfdgaaW.PrintMore Go.Proofs.Ytlbcafniodfdgaa.A
theorem cyc_flat_lt {p : List Nat} (hp : IsP p) : ∀ i, i ≤ p.length → (∀ x ∈ (cyc p i).flatten, x < p.length) ∧ (cyc p i).flatten.Nodup := by
  intro i
  induction i with
  | zero => intro _; simp [cyc]
  | succ i ih =>
    intro hi
    obtain ⟨h1, h2⟩ := ih (by omega)
    by_cases h : ∃ c ∈ cyc p i, i ∈ c
    · rw [cyc_succ_old h]
      exact ⟨h1, h2⟩
    · rw [cyc_succ_new h]
      simp only [List.flatten_append, List.flatten_cons, List.flatten_nil, List.append_nil]
      have hi' : i < p.length := by omega
      have ho : (orb p i).Nodup := by
        unfold orb orbTo
        refine List.pairwise_map.mpr ?_
        refine List.pairwise_iff_getElem.mpr ?_
        intro a b ha hb hab
        rw [List.length_range] at ha hb
        rw [List.getElem_range, List.getElem_range]
        intro e
        have hb0 : b < per p i := hb
        exact orb_close hp hi' hb0 (by omega) (mem_orbTo.mpr ⟨a, hab, e⟩)
      refine ⟨fun x hx => ?_, List.nodup_append.mpr ⟨h2, ho, fun a ha b hb e => ?_⟩⟩
      · rcases List.mem_append.mp hx with hx | hx
        · exact h1 x hx
        · exact orb_lt hp hi' hx
      · subst e
        exact cyc_new hp hi' h hb (mem_flat.mp ha)
theorem cycles_flat_len {p : List Nat} (hp : IsP p) : (cycles p).flatten.length ≤ p.length := by
  have := cyc_flat_lt hp p.length (Nat.le_refl _)
  exact nodup_le _ _ this.2 this.1
theorem cycles_len {p : List Nat} (h24 : p.length ≤ 24) : (cycles p).length ≤ 24 := Nat.le_trans (cyc_len p p.length) h24
theorem cycle_len {p : List Nat} (hp : IsP p) (h24 : p.length ≤ 24) : ∀ c ∈ cycles p, c.length ≤ 24 := by
  intro c hc
  obtain ⟨s, hs, rfl⟩ := cyc_form p p.length c hc
  unfold orb
  rw [orbTo_len]
  have := (per_spec hp hs).2.1
  omega
structure SmallSS (l : List (List Int)) : Prop where
  n : l.length ≤ 24
  m : ∀ x ∈ l, x.length ≤ 24
  t : totL l ≤ 1000
theorem small_cycles {p : List Nat} (hp : IsP p) (h24 : p.length ≤ 24) : SmallSS (I2 (cycles p)) := by
  refine ⟨by rw [I2_len]; exact cycles_len h24, fun x hx => ?_, by rw [I2_tot]; have := cycles_flat_len hp; omega⟩
  unfold I2 at hx
  obtain ⟨c, hc, rfl⟩ := List.mem_map.mp hx
  rw [I_len]
  exact cycle_len hp h24 c hc
theorem small_nil : SmallSS [] := ⟨by simp, by simp, by simp [totL]⟩
theorem rows_both (r u : List Int) : ∃ l, Ev (fun k => spec_RowsOf.f k r u) l ∧ Ev (fun k => impl_RowsOf.f k r u) l ∧ SmallSS l := by
  unfold spec_RowsOf.f impl_RowsOf.f
  by_cases h : surfB r u = true
  · obtain ⟨r, u, rfl, rfl, hs⟩ := surf_nat h
    refine ⟨I2 (cycles r), Ev.bind (spec_surf _ _) ?_, Ev.bind (impl_surf _ _) ?_, small_cycles hs.pr hs.le⟩
    · simp only [h, if_true]
      exact Ev.bind (spec_cycles hs.pr hs.le) (Ev.now _)
    · simp only [h, if_true]
      exact Ev.bind (impl_cycles hs.pr hs.le) (Ev.now _)
  · have h' := Bool.eq_false_iff.mpr h
    refine ⟨[], Ev.bind (spec_surf _ _) ?_, Ev.bind (impl_surf _ _) ?_, small_nil⟩
    · simp only [h', Bool.false_eq_true, if_false]
      exact Ev.now _
    · simp only [h', Bool.false_eq_true, if_false]
      exact Ev.now _
end Go.Proofs.Ytlbcafniodfdgaa.M
end
section
/- The law of rows answers true. No conditions. -/
namespace Go.Proofs.Ytlbcafniodfdgaa.Pure
set_option linter.unusedVariables false
set_option linter.unusedSimpArgs false
open Go.RowKit Go.Proofs.YtlbcafniodfdgaaW.PrintWords Go.Proofs.YtlbcafniodfdgaaW.PrintLast Go.Proofs.YtlbcafniodfdgaaW.PrintMore Go.Proofs.Ytlbcafniodfdgaa.A Go.Proofs.Ytlbcafniodfdgaa.M
theorem FnExactRowsOf (r u : List Int) (hr : r.length ≤ maxLen) (_ : ∀ x ∈ r, (Lit.int .i64 x).wf = true) (hu : u.length ≤ maxLen) (_ : ∀ x ∈ u, (Lit.int .i64 x).wf = true) : ∃ k, laws_FnExactRowsOf.F k r u := by
  unfold maxLen at hr hu
  unfold laws_FnExactRowsOf.F
  by_cases h2 : r.length + u.length ≤ 1048576
  · obtain ⟨w, ⟨K1, e1⟩, ⟨K2, e2⟩, hw⟩ := rows_both r u
    obtain ⟨K3, e3⟩ := toSurf_ev r u (by omega) (by omega)
    obtain ⟨K4, e4⟩ := eqSurf_same r u (by omega) (by omega)
    obtain ⟨K5, e5⟩ := eqSS_same w (by have := hw.n; omega) (fun x hx => by have := hw.m x hx; omega)
    obtain ⟨K6, e6⟩ := markSurf_ev r u h2
    obtain ⟨K7, e7⟩ := markSS_ev w 1 (by omega) (by have := hw.t; omega) (by have := hw.n; omega)
    obtain ⟨K8, e8⟩ := heldSS_ev w 1 (by omega) (by have := hw.t; omega) (by have := hw.n; omega)
    exact ⟨K1 + K2 + K3 + K4 + K5 + K6 + K7 + K8, _, sz_small h2, .inr ⟨by omega, w, _, _, _, _, _, e3 _ (by omega), e4 _ (by omega), e1 _ (by omega), e2 _ (by omega), e5 _ (by omega), e6 _ (by omega), decide_eq_false (by omega), e7 _ (by omega), e8 _ (by omega), decide_eq_false (by omega)⟩⟩
  · exact ⟨0, _, sz_big (by omega) (by omega) h2, .inl (by omega)⟩
end Go.Proofs.Ytlbcafniodfdgaa.Pure
end
