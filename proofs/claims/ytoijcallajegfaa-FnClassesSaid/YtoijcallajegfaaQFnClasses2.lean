/- Lemmas for the row FnClasses: the program's functions told as plain functions, and plain mathematics. No conditions. -/
import Derived.Ground.SlsfProg
import Derived.Shelf.SlSortCmp.NoneTotal
import Derived.Test.YtoijcallajegfaaProg
import Derived.Test.YtoijcallajegfaaQFnClasses1
section
namespace Go.Proofs.Ytoijcallajegfaa.A
open Go.RowKit Go.Proofs.YtoijcallajegfaaW.PrintWords Go.Proofs.YtoijcallajegfaaW.PrintLast Go.Proofs.YtoijcallajegfaaW.PrintMore
attribute [local go_sem] max2_int min2_int max_two min_two max_three min_three max_four min_four
set_option linter.unusedVariables false
set_option linter.unusedSimpArgs false
def impl_CanonOf.f (k : Nat) (l0_0 : List Int) (l0_1 : List Int) : Option (List Int × List Int × Bool) := (impl_namedFrom.f k l0_0 l0_1).bind fun t219 => (if (t219.length : Int) = 0 then (some (([] : List Int), ([] : List Int), false)) else ((impl_Surface_59.f k t219).bind fun bt222 => (some (bt222.1, bt222.2, true))))
theorem impl_CanonOf.mono : ∀ a0 a1 k, LeO (impl_CanonOf.f k a0 a1) (impl_CanonOf.f (k + 1) a0 a1) := by
  intro a0 a1 k
  unfold impl_CanonOf.f
  repeat' first|exact impl_Surface_59.mono _ _|exact impl_namedFrom.mono _ _ _|exact lo_|refine LeO.ite ?_ ?_|refine LeO.bind ?_ (fun _ => ?_)
set_option maxHeartbeats 8000000 in
set_option maxRecDepth 100000 in
theorem impl_CanonOf.calls (k : Nat) (A0_0 : Option Addr) (c0_0 : Nat) (l0_0 : List Int) (A0_1 : Option Addr) (c0_1 : Nat) (l0_1 : List Int) (r1 : List Int) (r2 : List Int) (r3 : Bool) (w : World) (hr0_0 : Kd.C (Kd.int .i64) w A0_0 l0_0.length l0_0) (hc0_0 : l0_0.length ≤ c0_0) (hr0_1 : Kd.C (Kd.int .i64) w A0_1 l0_1.length l0_1) (hc0_1 : l0_1.length ≤ c0_1) (h : impl_CanonOf.f k l0_0 l0_1 = some (r1, r2, r3)) :
    Calls Try.prog 17 #[.agg #[.slice A0_0 l0_0.length c0_0, .slice A0_1 l0_1.length c0_1]] w fun e w' => ∃ v0_ v1_ : Value, e = .returned (.tuple #[.agg #[v0_, v1_], .bool r3]) ∧ Kd.R (Kd.int .i64) 3 w' w.heap.size (fun k_ => some k_ ≠ (v1_ : Value).ownBlock) v0_ r1 ∧ Kd.R (Kd.int .i64) 3 w' w.heap.size (fun k_ => some k_ ≠ (v0_ : Value).ownBlock) v1_ r2 ∧ Below w.heap.size w w' := by
  have hu33 := Try.underlying33
  have HR0_0 := Aside0.mk hr0_0
  have HC0_0 := Aside0.mk hc0_0
  clear hr0_0 hc0_0
  have HR0_1 := Aside0.mk hr0_1
  have HC0_1 := Aside0.mk hc0_1
  clear hr0_1 hc0_1
  have HB := Aside0.mk (Below.refl w.heap.size w)
  have H := h
  unfold impl_CanonOf.f at H
  clear h
  obtain ⟨t219, A2, H⟩ := bi_ H
  by_cases c3 : (t219.length : Int) = 0
  · rw [if_pos c3] at H
    have c3b0 : ((t219.length : Int) == 0) = true := beq_iff_eq.mpr c3
    have c3b1 : ((t219.length : Int) != 0) = false := bne_eq_false_iff_eq.mpr c3
    clear c3
    simp only [Option.some.injEq, Prod.mk.injEq] at H
    obtain ⟨rfl, rfl, rfl⟩ := H
    go_enter Try.func17, Try.ntmps17
    go_wp2_with (first | ((with_reducible refine gate_dst (N := 1) rfl ?_); refine bx_ 1 #[.slice A0_0 l0_0.length c0_0, .slice A0_1 l0_1.length c0_1] 33 ?_; intro gb217 hg w4 hbox hb; have BK217 := Aside0.mk hbox; have GW217 := gw_ w hg; have GE217 := GW217; replace HB := b1_ hb; clear hb hbox hg) | ((with_reducible refine gate_dst (N := 2) rfl ?_); refine bx_ 2 #[.slice none 0 0, .slice none 0 0] 33 ?_; intro gb218 hg w5 hbox hb; have BK218 := Aside0.mk hbox; have GW218 := gw_ w hg; have GE218 := GW218; replace HB := b1_ hb; have NB217_218 := gN_ BK217 hg; have NB218_217 := gP_ BK217 hg; replace BK217 := bb_ BK217 hb; clear hb hbox hg; have hnb6 := NB217_218.out; have hnc6 := NB218_217.out; obtain ⟨hcz7_0, hcz7_1, hfz7_0, hfz7_1⟩ := c2_ BK217) | ((with_reducible refine gate_callee (f := 58) rfl ?_); refine gL_ (some 6) Try.func58 #[.agg #[.slice A0_0 l0_0.length c0_0, .slice A0_1 l0_1.length c0_1]] rfl qa_ ?_; (with_reducible refine (impl_namedFrom.calls k _ _ l0_0 _ _ l0_1 t219 _ (cb_ HR0_0) HC0_0.out (cb_ HR0_1) HC0_1.out A2.out).mono ?_); rintro e w8 ⟨v220, rfl, ho0, hb⟩; refine ⟨_, rfl, ?_⟩; have HO221 := Aside0.mk (Kd.S_lower (Kd.S_newB (Kd.S_newB (Kd.S_newM (M := fun k_ => (w.heap.size ≤ k_)) ho0 (below_size hB_) (fun k_ h_ => h_)) (kk_ BK217)) (kk_ BK218)) (below_size hB_)); replace BK217 := bb_ BK217 hb; replace BK218 := bb_ BK218 hb; replace HB := b1_ hb; clear hb ho0; obtain ⟨Ao9, co9, eo9⟩ := Kd.S_slice HO221.out; subst eo9; obtain ⟨hcz10_0, hcz10_1, hfz10_0, hfz10_1⟩ := c2_ BK218))
    refine bodyPost_ret (results_ct rfl _ _ gb218 33 #[.slice none 0 0, .slice none 0 0] (0, 0) _ rfl qp_ Try.underlying33 rfl (by kernel_rfl)) rfl ?_
    exact ⟨_, _, qb_, (Kd.R_nil _ _ _ _ _), (Kd.R_nil _ _ _ _ _), hB_⟩
  · rw [if_neg c3] at H
    have c3b0 : ((t219.length : Int) == 0) = false := beq_eq_false_iff_ne.mpr c3
    have c3b1 : ((t219.length : Int) != 0) = true := bne_iff_ne.mpr c3
    have c3b2 : ¬ (t219 = []) := fun h_ => c3 (by rw [h_]; rfl)
    obtain ⟨⟨t222, t225⟩, A11, H⟩ := bi_ H
    try dsimp only at H
    simp only [Option.some.injEq, Prod.mk.injEq] at H
    obtain ⟨rfl, rfl, rfl⟩ := H
    go_enter Try.func17, Try.ntmps17
    go_wp2_with (first | ((with_reducible refine gate_dst (N := 1) rfl ?_); refine bx_ 1 #[.slice A0_0 l0_0.length c0_0, .slice A0_1 l0_1.length c0_1] 33 ?_; intro gb217 hg w12 hbox hb; have BK217 := Aside0.mk hbox; have GW217 := gw_ w hg; have GE217 := GW217; replace HB := b1_ hb; clear hb hbox hg) | ((with_reducible refine gate_dst (N := 2) rfl ?_); refine bx_ 2 #[.slice none 0 0, .slice none 0 0] 33 ?_; intro gb218 hg w13 hbox hb; have BK218 := Aside0.mk hbox; have GW218 := gw_ w hg; have GE218 := GW218; replace HB := b1_ hb; have NB217_218 := gN_ BK217 hg; have NB218_217 := gP_ BK217 hg; replace BK217 := bb_ BK217 hb; clear hb hbox hg; have hnb14 := NB217_218.out; have hnc14 := NB218_217.out; obtain ⟨hcz15_0, hcz15_1, hfz15_0, hfz15_1⟩ := c2_ BK217) | ((with_reducible refine gate_callee (f := 58) rfl ?_); refine gL_ (some 6) Try.func58 #[.agg #[.slice A0_0 l0_0.length c0_0, .slice A0_1 l0_1.length c0_1]] rfl qa_ ?_; (with_reducible refine (impl_namedFrom.calls k _ _ l0_0 _ _ l0_1 t219 _ (cb_ HR0_0) HC0_0.out (cb_ HR0_1) HC0_1.out A2.out).mono ?_); rintro e w16 ⟨v220, rfl, ho0, hb⟩; refine ⟨_, rfl, ?_⟩; have HO221 := Aside0.mk (Kd.S_lower (Kd.S_newB (Kd.S_newB (Kd.S_newM (M := fun k_ => (w.heap.size ≤ k_)) ho0 (below_size hB_) (fun k_ h_ => h_)) (kk_ BK217)) (kk_ BK218)) (below_size hB_)); replace BK217 := bb_ BK217 hb; replace BK218 := bb_ BK218 hb; replace HB := b1_ hb; clear hb ho0; obtain ⟨Ao17, co17, eo17⟩ := Kd.S_slice HO221.out; subst eo17) | ((with_reducible refine gate_callee (f := 59) rfl ?_); refine gL_ (some 12) Try.func59 #[.slice Ao17 t219.length co17, .func (.func 60) #[] #[]] rfl qa_ ?_; (with_reducible refine (impl_Surface_59.calls k (fun k_ => ((((w.heap.size ≤ k_) ∧ True) ∧ k_ ≠ gb217) ∧ k_ ≠ gb218)) _ _ t219 t222 t225 _ (Kd.S_V (HO221.out)) A11.out).mono ?_); rintro e w18 ⟨v223, v226, rfl, ho0, ho1, hb, hj_⟩; refine ⟨_, rfl, ?_⟩; have HOW_ := Aside0.mk (atJ_own (ss_ HO221) hj_ hb); clear hj_; replace HO221 := sb_ HO221 hb; have HO224 := Aside0.mk (Kd.V_lower (Kd.V_mono (ok' := fun k_ => (w.heap.size ≤ k_) ∧ k_ ≠ gb217 ∧ k_ ≠ gb218) ho0 (fun k_ hk_ => ⟨Or.elim hk_ (fun hs_ => hs_.1.1.1) (fun hn_ => (Nat.le_trans (below_size hB_) hn_)), Or.elim hk_ (fun hs_ => hs_.1.2) (fun hn_ => (Kd.freshB (kk_ BK217) k_ hn_)), Or.elim hk_ (fun hs_ => hs_.2) (fun hn_ => (Kd.freshB (kk_ BK218) k_ hn_))⟩)) (below_size hB_)); have HO227 := Aside0.mk (Kd.V_lower (Kd.V_mono (ok' := fun k_ => (w.heap.size ≤ k_) ∧ k_ ≠ gb217 ∧ k_ ≠ gb218) ho1 (fun k_ hk_ => ⟨Or.elim hk_ (fun hs_ => hs_.1.1.1) (fun hn_ => (Nat.le_trans (below_size hB_) hn_)), Or.elim hk_ (fun hs_ => hs_.1.2) (fun hn_ => (Kd.freshB (kk_ BK217) k_ hn_)), Or.elim hk_ (fun hs_ => hs_.2) (fun hn_ => (Kd.freshB (kk_ BK218) k_ hn_))⟩)) (below_size hB_)); replace BK217 := bb_ BK217 hb; replace BK218 := bb_ BK218 hb; replace HB := b1_ hb; clear hb ho0 ho1; obtain ⟨Ao19, co19, eo19⟩ := Kd.V_slice HO224.out; subst eo19; obtain ⟨hcz20_0, hcz20_1, hfz20_0, hfz20_1⟩ := c2_ BK218; obtain ⟨Ao21, co21, eo21⟩ := Kd.V_slice HO227.out; subst eo21))
    refine bodyPost_ret (results_ct rfl _ _ gb218 33 #[.slice Ao19 t222.length co19, .slice Ao21 t225.length co21] (0, 0) _ rfl qp_ Try.underlying33 rfl (by kernel_rfl)) rfl ?_
    exact ⟨_, _, qb_, (rw_ (Kd.R_mono (Kd.R_tight rfl (Kd.R_far (p := ⟨gb218, 1, none⟩) (Kd.R_far (p := ⟨gb218, 0, none⟩) (Kd.R_types HOW_.out.1 (BK218.out) (by decide)) (fun _ hk => hk.2) _) (fun _ hk => hk.2) _)) (fun k_ e1_ e2_ => HOW_.out.2.2 k_ e1_.symm e2_.symm))), (rw_ (Kd.R_mono (Kd.R_tight rfl (Kd.R_far (p := ⟨gb218, 1, none⟩) (Kd.R_far (p := ⟨gb218, 0, none⟩) (Kd.R_types HOW_.out.2.1 (BK218.out) (by decide)) (fun _ hk => hk.2) _) (fun _ hk => hk.2) _)) (fun k_ e1_ e2_ => HOW_.out.2.2 k_ e2_.symm e1_.symm))), hB_⟩
end Go.Proofs.Ytoijcallajegfaa.A
end
section
namespace Go.Proofs.Ytoijcallajegfaa.A
open Go.RowKit Go.Proofs.YtoijcallajegfaaW.PrintWords Go.Proofs.YtoijcallajegfaaW.PrintLast Go.Proofs.YtoijcallajegfaaW.PrintMore
attribute [local go_sem] max2_int min2_int max_two min_two max_three min_three max_four min_four
set_option linter.unusedVariables false
set_option linter.unusedSimpArgs false
def slices_Index_int_int.l0 : Nat → List Int → Int → Int → Int → Option (Int)
  | 0, _, _, _, _ => none
  | k + 1, x0, x1, x7, x8 => if x8 < x7 then (if 0 ≤ x8 then (if x8 < (x0.length : Int) then (if x1 = (rd x0 x8) then (some x8) else (slices_Index_int_int.l0 k x0 x1 x7 (wrap64 (x8 + 1)))) else (none)) else (none)) else (some (-1))
def slices_Index_int_int.f (k : Nat) (l0 : List Int) (a1 : Int) : Option (Int) := slices_Index_int_int.l0 k l0 a1 (l0.length : Int) 0
theorem slices_Index_int_int.mono_l : ∀ k, (∀ y0 y1 y2 y3, LeO (slices_Index_int_int.l0 k y0 y1 y2 y3) (slices_Index_int_int.l0 (k + 1) y0 y1 y2 y3))
  | 0 => fun _ _ _ _ r h => by simp [slices_Index_int_int.l0] at h
  | k + 1 => by
    have ih0 := slices_Index_int_int.mono_l k
    · intro y0 y1 y2 y3
      unfold slices_Index_int_int.l0
      repeat' first|exact ih0 _ _ _ _|exact lo_|refine LeO.ite ?_ ?_|refine LeO.bind ?_ (fun _ => ?_)
theorem slices_Index_int_int.mono : ∀ a0 a1 k, LeO (slices_Index_int_int.f k a0 a1) (slices_Index_int_int.f (k + 1) a0 a1) := by
  intro a0 a1 k
  have ih0 := slices_Index_int_int.mono_l k
  unfold slices_Index_int_int.f
  repeat' first|exact ih0 _ _ _ _|exact lo_|refine LeO.ite ?_ ?_|refine LeO.bind ?_ (fun _ => ?_)
set_option maxHeartbeats 8000000 in
set_option maxRecDepth 100000 in
theorem slices_Index_int_int.calls (k : Nat) (A0 : Option Addr) (c0 : Nat) (l0 : List Int) (a1 : Int) (r : Int) (w : World) (hr0 : Kd.C (Kd.int .i64) w A0 l0.length l0) (hc0 : l0.length ≤ c0) (h : slices_Index_int_int.f k l0 a1 = some r) :
    Calls Try.prog 137 #[.slice A0 l0.length c0, .int .i64 a1] w fun e w' => e = .returned (.int .i64 r) ∧ Drawn0 w w' := by
  have HR0 := Aside0.mk hr0
  have HC0 := Aside0.mk hc0
  clear hr0 hc0
  have H := h
  unfold slices_Index_int_int.f at H
  clear h
  have H' := Aside0.mk H
  clear H
  go_enter Try.func137, Try.ntmps137
  go_wp2
  go_loopg [8] k (fun kq v8 w' => ∃ (x8_1 : Int), v8 = .int .i64 x8_1 ∧ Aside0 (slices_Index_int_int.l0 kq l0 a1 (l0.length : Int) x8_1 = some r) ∧ Aside0 (kq ≤ k) ∧ Drawn0 w w')
  case atStart => exact ⟨(0), qc_, H', ⟨Nat.le_refl _⟩, by repeat (first | exact Drawn0.refl _ | apply Drawn0.step)⟩
  case round =>
    clear H'
    obtain ⟨x8_1, rfl, HA, HK1, ⟨m1, rfl⟩⟩ := hrel
    cases gk with
    | zero => exact absurd HA.out (by simp [slices_Index_int_int.l0])
    | succ k1 =>
      have H := HA.out
      clear HA
      simp only [slices_Index_int_int.l0] at H
      by_cases c3 : x8_1 < (l0.length : Int)
      · rw [if_pos c3] at H
        have c3b0 := decide_eq_true c3
        clear c3
        have c4 := cp_ H
        replace H := ca_ H
        have c4b0 := decide_eq_true c4
        clear c4
        have c5 := cp_ H
        replace H := ca_ H
        have c5b0 := decide_eq_true c5
        clear c5
        by_cases c6 : a1 = (rd l0 x8_1)
        · rw [if_pos c6] at H
          have c6b0 : (a1 == (rd l0 x8_1)) = true := beq_iff_eq.mpr c6
          have c6b1 : (a1 != (rd l0 x8_1)) = false := bne_eq_false_iff_eq.mpr c6
          clear c6
          obtain rfl := Option.some.inj H
          have p228 : 0 ≤ (x8_1 : Int) := of_decide_eq_true qe_
          have q228 : x8_1 < (l0.length : Int) := of_decide_eq_true qe_
          obtain ⟨ad228, e228, hx228_0⟩ := Kd.at_int HR0.out x8_1 p228 q228
          cases e228
          replace p228 := eq_true p228
          replace q228 := eq_true q228
          go_wp2
          go_ret
          exact ⟨qc_, by repeat (first | exact Drawn0.refl _ | apply Drawn0.step)⟩
        · rw [if_neg c6] at H
          have c6b0 : (a1 == (rd l0 x8_1)) = false := beq_eq_false_iff_ne.mpr c6
          have c6b1 : (a1 != (rd l0 x8_1)) = true := bne_iff_ne.mpr c6
          have H' := Aside0.mk H
          clear H
          have p228 : 0 ≤ (x8_1 : Int) := of_decide_eq_true qe_
          have q228 : x8_1 < (l0.length : Int) := of_decide_eq_true qe_
          obtain ⟨ad228, e228, hx228_0⟩ := Kd.at_int HR0.out x8_1 p228 q228
          cases e228
          replace p228 := eq_true p228
          replace q228 := eq_true q228
          go_wp2
          go_roundg k1
          case measure => have := HK1.out; omega
          case rel => exact ⟨(wrap64 (x8_1 + 1)), qc_, H', ⟨by have := HK1.out; omega⟩, by repeat (first | exact Drawn0.refl _ | apply Drawn0.step)⟩
      · rw [if_neg c3] at H
        have c3b0 := decide_eq_false c3
        clear c3
        obtain rfl := Option.some.inj H
        go_wp2
        go_ret
        exact ⟨qc_, by repeat (first | exact Drawn0.refl _ | apply Drawn0.step)⟩
end Go.Proofs.Ytoijcallajegfaa.A
end
section
namespace Go.Proofs.Ytoijcallajegfaa.A
open Go.RowKit Go.Proofs.YtoijcallajegfaaW.PrintWords Go.Proofs.YtoijcallajegfaaW.PrintLast Go.Proofs.YtoijcallajegfaaW.PrintMore
attribute [local go_sem] max2_int min2_int max_two min_two max_three min_three max_four min_four
set_option linter.unusedVariables false
set_option linter.unusedSimpArgs false
def slices_Contains_int_int.f (k : Nat) (l0 : List Int) (a1 : Int) : Option (Bool) := (slices_Index_int_int.f k l0 a1).bind fun t229 => (some (decide (t229 ≥ 0)))
theorem slices_Contains_int_int.mono : ∀ a0 a1 k, LeO (slices_Contains_int_int.f k a0 a1) (slices_Contains_int_int.f (k + 1) a0 a1) := by
  intro a0 a1 k
  unfold slices_Contains_int_int.f
  repeat' first|exact slices_Index_int_int.mono _ _ _|exact lo_|refine LeO.ite ?_ ?_|refine LeO.bind ?_ (fun _ => ?_)
set_option maxHeartbeats 8000000 in
set_option maxRecDepth 100000 in
theorem slices_Contains_int_int.calls (k : Nat) (A0 : Option Addr) (c0 : Nat) (l0 : List Int) (a1 : Int) (r : Bool) (w : World) (hr0 : Kd.C (Kd.int .i64) w A0 l0.length l0) (hc0 : l0.length ≤ c0) (h : slices_Contains_int_int.f k l0 a1 = some r) :
    Calls Try.prog 99 #[.slice A0 l0.length c0, .int .i64 a1] w fun e w' => e = .returned (.bool r) ∧ Drawn0 w w' := by
  have HR0 := Aside0.mk hr0
  have HC0 := Aside0.mk hc0
  clear hr0 hc0
  have H := h
  unfold slices_Contains_int_int.f at H
  clear h
  obtain ⟨t229, A3, H⟩ := bi_ H
  obtain rfl := Option.some.inj H
  go_enter Try.func99, Try.ntmps99
  go_wp2_with (first | ((with_reducible refine gate_callee (f := 137) rfl ?_); refine gL_ (some 7) Try.func137 #[.slice A0 l0.length c0, .int .i64 a1] rfl qa_ ?_; (with_reducible refine (slices_Index_int_int.calls k _ _ l0 a1 t229 _ (cc_ HR0) HC0.out A3.out).mono ?_); rintro e w' ⟨rfl, ⟨nd, rfl⟩⟩; refine ⟨_, rfl, ?_⟩))
  go_ret
  exact ⟨qc_, by repeat (first | exact Drawn0.refl _ | apply Drawn0.step)⟩
end Go.Proofs.Ytoijcallajegfaa.A
end
section
namespace Go.Proofs.Ytoijcallajegfaa.A
open Go.RowKit Go.Proofs.YtoijcallajegfaaW.PrintWords Go.Proofs.YtoijcallajegfaaW.PrintLast Go.Proofs.YtoijcallajegfaaW.PrintMore
attribute [local go_sem] max2_int min2_int max_two min_two max_three min_three max_four min_four
set_option linter.unusedVariables false
set_option linter.unusedSimpArgs false
def impl_copyInts.f (l0 : List Int) : Option (List Int) := (some (([] : List Int) : List Int)).bind fun y230 => (if y230.length + l0.length < 17592186044416 then (some (y230 ++ l0)) else (none))
set_option maxHeartbeats 8000000 in
set_option maxRecDepth 100000 in
theorem impl_copyInts.calls (A0 : Option Addr) (c0 : Nat) (l0 : List Int) (r : List Int) (w : World) (hr0 : Kd.C (Kd.int .i64) w A0 l0.length l0) (hc0 : l0.length ≤ c0) (h : impl_copyInts.f l0 = some r) :
    Calls Try.prog 100 #[.slice A0 l0.length c0] w fun e w' => ∃ v0_ : Value, e = .returned (v0_) ∧ Kd.R (Kd.int .i64) 3 w' w.heap.size (fun _ => True) v0_ r ∧ Below w.heap.size w w' := by
  have HR0 := Aside0.mk hr0
  have HC0 := Aside0.mk hc0
  clear hr0 hc0
  have HB := Aside0.mk (Below.refl w.heap.size w)
  have H := h
  unfold impl_copyInts.f at H
  clear h
  obtain ⟨y230, hy230⟩ : ∃ y_ : List Int, y_ = (([] : List Int)) := ⟨_, rfl⟩
  replace H : (if y230.length + l0.length < 17592186044416 then (some (y230 ++ l0)) else (none)) = some r := by first | (rw [hy230]; exact H) | exact H
  have Ny230 := Aside0.mk hy230
  clear hy230
  have c2 := cp_ H
  replace H := ca_ H
  have LMc2 := Aside0.mk c2
  clear c2
  obtain ⟨y233, hy233⟩ : ∃ y_ : List Int, y_ = (y230 ++ l0) := ⟨_, rfl⟩
  replace H : (some y233) = some r := by first | (rw [hy233]; exact H) | exact H
  have Ny233 := Aside0.mk hy233
  clear hy233
  obtain rfl := Option.some.inj H
  go_enter Try.func100, Try.ntmps100
  go_wp2_with (first | ((with_reducible refine gate_dst (N := 3) rfl ?_); refine Kd.R_lit (Kd.int .i64) _ 3 ?hg (N := 3) ?hd (xs := ([] : List Int)) (inner := []) (ok := fun _ => True) (okp := fun _ => True) ?hr ?hp (fun _ hk => hk) trivial (Below.refl _ _) (Nat.le_refl _) (by simp) ?_; (case hd => rfl); (case hg => rfl); (case hr => first | (go_simp; done) | (go_simp; rfl)); (case hp => exact (Reps.none _ _)); intro v231 w3 ho4 hb hg_ hnew_; clear hg_ hnew_; (first | rw [← Ny230.out] at ho4 | (simp only [Int.reduceToNat] at ho4; rw [← Ny230.out] at ho4)); have HO232 := rl_ w ho4; replace HB := b1_ hb; clear hb ho4) | ((with_reducible refine gate_builtin (b := .append) (xs := #[.tmp 3, .tmp 4]) rfl ?_); at_builtin; refine Kd.R_append_rows (Kd.int .i64) (w0 := w) w.heap.size rfl (.tmp 3) (.tmp 4) 23 3 (.int .i64 0) 8 rfl Try.underlying23 info3 rfl (by decide) (by omega) v231 y230 l0 _ _ _ (fun _ => True) (fun _ => False) rfl rfl ?aO ?aR (fun _ _ h => h) (fun _ h => h.elim) ?aF ?aB ?aS ?aL ?_; (case aR => exact cb_ HR0); (case aB => exact hB_); (case aF => exact (fun _ _ => trivial)); (case aO => exact (rr_ HO232)); (case aS => exact (below_size hB_)); (case aL => have := LMc2.out; omega); intro v234 w5 ho hb hg hat; rw [← Ny233.out] at ho; replace HB := Aside0.mk hb; have HO235 := Aside0.mk ho; clear HO232; clear ho hb hg hat))
  go_ret
  exact ⟨_, qb_, (rr_ HO235), hB_⟩
end Go.Proofs.Ytoijcallajegfaa.A
end
section
namespace Go.Proofs.Ytoijcallajegfaa.A
open Go.RowKit Go.Proofs.YtoijcallajegfaaW.PrintWords Go.Proofs.YtoijcallajegfaaW.PrintLast Go.Proofs.YtoijcallajegfaaW.PrintMore
attribute [local go_sem] max2_int min2_int max_two min_two max_three min_three max_four min_four
set_option linter.unusedVariables false
set_option linter.unusedSimpArgs false
mutual
def impl_allPerms.l0 : Nat → Int → List (List Int) → Int → Option ((List (List Int)))
  | 0, _, _, _ => none
  | k + 1, x0, x3, x4 => if x4 < x0 then (impl_allPerms.l1 k x0 x4 (([] : List (List Int))) x3 (x3.length : Int) 0) else (some x3)
def impl_allPerms.l1 : Nat → Int → Int → List (List Int) → List (List Int) → Int → Int → Option ((List (List Int)))
  | 0, _, _, _, _, _, _ => none
  | k + 1, x0, x4, x5, x17, x18, x19 => if x19 < x18 then (if 0 ≤ x19 then (if x19 < (x17.length : Int) then (impl_allPerms.l2 k x0 x4 x5 (rd_L5 x17 x19) 0 x17 x18 x19) else (none)) else (none)) else (impl_allPerms.l0 k x0 x5 (wrap64 (x4 + 1)))
def impl_allPerms.l2 : Nat → Int → Int → List (List Int) → List Int → Int → List (List Int) → Int → Int → Option ((List (List Int)))
  | 0, _, _, _, _, _, _, _, _ => none
  | k + 1, x0, x4, x5, x7, x8, x17, x18, x19 => if x8 < x0 then ((slices_Contains_int_int.f k x7 x8).bind fun t246 => (if t246 = true then (impl_allPerms.l2 k x0 x4 x5 x7 (wrap64 (x8 + 1)) x17 x18 x19) else ((impl_copyInts.f x7).bind fun t247 => (if t247.length < 17592186044416 then (if x5.length < 5864062014805 then (impl_allPerms.l2 k x0 x4 (x5 ++ [(t247 ++ [x8])]) x7 (wrap64 (x8 + 1)) x17 x18 x19) else (none)) else (none))))) else (impl_allPerms.l1 k x0 x4 x5 x17 x18 (wrap64 (x19 + 1)))
end
def impl_allPerms.f (k : Nat) (a0 : Int) : Option ((List (List Int))) := impl_allPerms.l0 k a0 (([(([] : List Int))] : List (List Int))) 0
theorem impl_allPerms.mono_l : ∀ k, (∀ y0 y1 y2, LeO (impl_allPerms.l0 k y0 y1 y2) (impl_allPerms.l0 (k + 1) y0 y1 y2)) ∧ (∀ y0 y1 y2 y3 y4 y5, LeO (impl_allPerms.l1 k y0 y1 y2 y3 y4 y5) (impl_allPerms.l1 (k + 1) y0 y1 y2 y3 y4 y5)) ∧ (∀ y0 y1 y2 y3 y4 y5 y6 y7, LeO (impl_allPerms.l2 k y0 y1 y2 y3 y4 y5 y6 y7) (impl_allPerms.l2 (k + 1) y0 y1 y2 y3 y4 y5 y6 y7))
  | 0 => ⟨fun _ _ _ r h => by simp [impl_allPerms.l0] at h, fun _ _ _ _ _ _ r h => by simp [impl_allPerms.l1] at h, fun _ _ _ _ _ _ _ _ r h => by simp [impl_allPerms.l2] at h⟩
  | k + 1 => by
    obtain ⟨ih0, ih1, ih2⟩ := impl_allPerms.mono_l k
    refine ⟨?_, ?_, ?_⟩
    · intro y0 y1 y2
      unfold impl_allPerms.l0
      repeat' first|exact ih0 _ _ _|exact ih1 _ _ _ _ _ _|exact ih2 _ _ _ _ _ _ _ _|exact slices_Contains_int_int.mono _ _ _|exact lo_|refine LeO.ite ?_ ?_|refine LeO.bind ?_ (fun _ => ?_)
    · intro y0 y1 y2 y3 y4 y5
      unfold impl_allPerms.l1
      repeat' first|exact ih0 _ _ _|exact ih1 _ _ _ _ _ _|exact ih2 _ _ _ _ _ _ _ _|exact slices_Contains_int_int.mono _ _ _|exact lo_|refine LeO.ite ?_ ?_|refine LeO.bind ?_ (fun _ => ?_)
    · intro y0 y1 y2 y3 y4 y5 y6 y7
      unfold impl_allPerms.l2
      repeat' first|exact ih0 _ _ _|exact ih1 _ _ _ _ _ _|exact ih2 _ _ _ _ _ _ _ _|exact slices_Contains_int_int.mono _ _ _|exact lo_|refine LeO.ite ?_ ?_|refine LeO.bind ?_ (fun _ => ?_)
theorem impl_allPerms.mono : ∀ a0 k, LeO (impl_allPerms.f k a0) (impl_allPerms.f (k + 1) a0) := by
  intro a0 k
  obtain ⟨ih0, ih1, ih2⟩ := impl_allPerms.mono_l k
  unfold impl_allPerms.f
  repeat' first|exact ih0 _ _ _|exact ih1 _ _ _ _ _ _|exact ih2 _ _ _ _ _ _ _ _|exact slices_Contains_int_int.mono _ _ _|exact lo_|refine LeO.ite ?_ ?_|refine LeO.bind ?_ (fun _ => ?_)
set_option maxHeartbeats 8000000 in
set_option maxRecDepth 100000 in
theorem impl_allPerms.calls (k : Nat) (a0 : Int) (r : List (List Int)) (w : World) (h : impl_allPerms.f k a0 = some r) :
    Calls Try.prog 50 #[.int .i64 a0] w fun e w' => ∃ v0_ : Value, e = .returned (v0_) ∧ Kd.N (Kd.slice 3 (Kd.int .i64)) 23 w' w.heap.size (fun k_ => (w.heap.size ≤ k_)) v0_ r ∧ Below w.heap.size w w' := by
  have HB := Aside0.mk (Below.refl w.heap.size w)
  have H := h
  unfold impl_allPerms.f at H
  clear h
  obtain ⟨y236, hy236⟩ : ∃ y_ : List Int, y_ = (([] : List Int)) := ⟨_, rfl⟩
  replace H : (impl_allPerms.l0 k a0 (([y236] : List (List Int))) 0) = some r := by first | (rw [hy236]; exact H) | exact H
  have Ny236 := Aside0.mk hy236
  clear hy236
  obtain ⟨y239, hy239⟩ : ∃ y_ : List (List Int), y_ = (([y236] : List (List Int))) := ⟨_, rfl⟩
  replace H : (impl_allPerms.l0 k a0 y239 0) = some r := by first | (rw [hy239]; exact H) | exact H
  have Ny239 := Aside0.mk hy239
  clear hy239
  have H' := Aside0.mk H
  clear H
  go_enter Try.func50, Try.ntmps50
  go_wp2_with (first | ((with_reducible refine gate_dst (N := 9) rfl ?_); refine Kd.R_lit (Kd.int .i64) _ 3 ?hg (N := 9) ?hd (xs := ([] : List Int)) (inner := []) (ok := fun _ => True) (okp := fun _ => True) ?hr ?hp (fun _ hk => hk) trivial (Below.refl _ _) (Nat.le_refl _) (by simp) ?_; (case hd => rfl); (case hg => rfl); (case hr => first | (go_simp; done) | (go_simp; rfl)); (case hp => exact (Reps.none _ _)); intro v237 w2 ho3 hb hg_ hnew_; clear hg_ hnew_; (first | rw [← Ny236.out] at ho3 | (simp only [Int.reduceToNat] at ho3; rw [← Ny236.out] at ho3)); have HO238 := Aside0.mk (Kd.R_lower (Kd.R_newM (M := fun k_ => (w.heap.size ≤ k_)) ho3 (below_size hB_) (fun k_ h_ => h_)) (below_size hB_)); replace HB := b1_ hb; clear hb ho3; obtain ⟨Ao4, co4, eo4⟩ := Kd.R_slice HO238.out; subst eo4) | ((with_reducible refine gate_dst (N := 10) rfl ?_); refine Kd.N_lit (Kd.slice 3 (Kd.int .i64)) _ 23 ?hg (N' := 10) ?hd (xs := ([y236] : List (List Int))) (inner := [.slice Ao4 y236.length co4]) (ok := (fun k_ => (w.heap.size ≤ k_))) (okp := (fun k_ => (w.heap.size ≤ k_))) ?hr ?hp (fun _ hk => hk) ((show ∀ k_, w2.heap.size ≤ k_ → (fun k_ => (w.heap.size ≤ k_)) k_ from fun k_ hk => (Nat.le_trans (below_size hB_) hk)) _ (Nat.le_refl _)) (Below.refl _ _) (Nat.le_refl _) (by simp) ?_; (case hd => rfl); (case hg => rfl); (case hr => first | (go_simp; done) | (go_simp; rfl)); (case hp => exact (Reps.one (show Kd.FK (Kd.slice 3 (Kd.int .i64)) _ _ y236 [.slice Ao4 y236.length co4] from (Kd.FK_slice_mk (Kd.R_reads' (Kd.R_mono (ok' := (fun k_ => (w.heap.size ≤ k_))) (HO238.out) (fun k_ hk => hk.1))).2.1 (Kd.R_F (Kd.R_mono (ok' := (fun k_ => (w.heap.size ≤ k_))) (HO238.out) (fun k_ hk => hk.1))))) (Reps.none _ _))); intro v240 w5 ho6 hb hg_ hnew_; clear hg_ hnew_; (first | rw [← Ny239.out] at ho6 | (simp only [Int.reduceToNat] at ho6; rw [← Ny239.out] at ho6)); have HO241 := Aside0.mk (Kd.N_lower ho6 (below_size hB_)); replace HB := b1_ hb; clear HO238; clear hb ho6))
  go_loopg [3, 4] k (fun kq v3 v4 w' => ∃ (x3_1 : List (List Int)) (x4_1 : Int), v4 = .int .i64 x4_1 ∧ Aside0 (impl_allPerms.l0 kq a0 x3_1 x4_1 = some r) ∧ Aside0 (kq ≤ k) ∧ Aside0 (Kd.N (Kd.slice 3 (Kd.int .i64)) 23 w' w.heap.size (fun k_ => (w.heap.size ≤ k_)) v3 x3_1) ∧ Aside0 (Below w.heap.size w w'))
  case atStart => exact ⟨(y239), (0), qc_, H', ⟨Nat.le_refl _⟩, ⟨by (with_reducible repeat (first | apply Kd.N_alloc | apply Kd.N_drewN | apply Kd.N_drew)); exact HO241.out⟩, ⟨hB_⟩⟩
  case round =>
    clear H'
    obtain ⟨x3_1, x4_1, rfl, HA, HK1, HO_3, HB⟩ := hrel
    cases gk with
    | zero => exact absurd HA.out (by simp [impl_allPerms.l0])
    | succ k1 =>
      have H := HA.out
      clear HA
      simp only [impl_allPerms.l0] at H
      by_cases c7 : x4_1 < a0
      · rw [if_pos c7] at H
        have c7b0 := decide_eq_true c7
        clear c7
        obtain ⟨y242, hy242⟩ : ∃ y_ : List (List Int), y_ = (([] : List (List Int))) := ⟨_, rfl⟩
        replace H : (impl_allPerms.l1 k1 a0 x4_1 y242 x3_1 (x3_1.length : Int) 0) = some r := by first | (rw [hy242]; exact H) | exact H
        have Ny242 := Aside0.mk hy242
        clear hy242
        have H' := Aside0.mk H
        clear H
        go_wp2_with (first | ((with_reducible refine gate_dst (N := 16) rfl ?_); refine Kd.N_lit (Kd.slice 3 (Kd.int .i64)) _ 23 ?hg (N' := 16) ?hd (xs := ([] : List (List Int))) (inner := []) (ok := (fun k_ => (w.heap.size ≤ k_) ∧ some k_ ≠ (u3 : Value).ownBlock)) (okp := (fun k_ => (w.heap.size ≤ k_) ∧ some k_ ≠ (u3 : Value).ownBlock)) ?hr ?hp (fun _ hk => hk) ((show ∀ k_, wr.heap.size ≤ k_ → (fun k_ => (w.heap.size ≤ k_) ∧ some k_ ≠ (u3 : Value).ownBlock) k_ from fun k_ hk => ⟨(Nat.le_trans (below_size hB_) hk), Kd.fresh' (Kd.N_lt (by (with_reducible repeat (first | apply Kd.N_alloc | apply Kd.N_drewN | apply Kd.N_drew)); exact HO_3.out)) k_ hk⟩) _ (Nat.le_refl _)) (Below.refl _ _) (Nat.le_refl _) (by simp) ?_; (case hd => rfl); (case hg => rfl); (case hr => first | (go_simp; done) | (go_simp; rfl)); (case hp => exact (Reps.none _ _)); intro v243 w8 ho9 hb hg_ hnew_; clear hg_ hnew_; (first | rw [← Ny242.out] at ho9 | (simp only [Int.reduceToNat] at ho9; rw [← Ny242.out] at ho9)); replace HO_3 := Aside0.mk (Kd.N_elder' (by (with_reducible repeat (first | apply Kd.N_alloc | apply Kd.N_drewN | apply Kd.N_drew)); exact HO_3.out) (Kd.N_base ho9) hb); have HO244 := Aside0.mk (Kd.N_lower ho9 (below_size hB_)); replace HB := b1_ hb; clear hb ho9; obtain ⟨Ao10, co10, eo10⟩ := Kd.N_slice HO_3.out; subst eo10))
        go_loopg [5, 19] k1 (fun kq v5 v19 w' => ∃ (x5_2 : List (List Int)) (x19_2 : Int), v19 = .int .i64 x19_2 ∧ Aside0 (impl_allPerms.l1 kq a0 x4_1 x5_2 x3_1 (x3_1.length : Int) x19_2 = some r) ∧ Aside0 (kq ≤ k1) ∧ Aside0 (Kd.N (Kd.slice 3 (Kd.int .i64)) 23 w' w.heap.size (fun k_ => (w.heap.size ≤ k_) ∧ some k_ ≠ ((.slice Ao10 x3_1.length co10) : Value).ownBlock) v5 x5_2) ∧ Aside0 (Kd.N (Kd.slice 3 (Kd.int .i64)) 23 w' w.heap.size (fun k_ => (w.heap.size ≤ k_) ∧ some k_ ≠ (v5 : Value).ownBlock) (.slice Ao10 x3_1.length co10) x3_1) ∧ Aside0 (Below w.heap.size w w'))
        case atStart => exact ⟨(y242), (0), qc_, H', ⟨Nat.le_refl _⟩, ⟨by (with_reducible repeat (first | apply Kd.N_alloc | apply Kd.N_drewN | apply Kd.N_drew)); exact HO244.out⟩, ⟨by (with_reducible repeat (first | apply Kd.N_alloc | apply Kd.N_drewN | apply Kd.N_drew)); exact HO_3.out⟩, ⟨hB_⟩⟩
        case round =>
          clear H'
          obtain ⟨x5_2, x19_2, rfl, HA, HK2, HO_5, HO_17, HB⟩ := hrel
          cases gk with
          | zero => exact absurd HA.out (by simp [impl_allPerms.l1])
          | succ k2 =>
            have H := HA.out
            clear HA
            simp only [impl_allPerms.l1] at H
            by_cases c11 : x19_2 < (x3_1.length : Int)
            · rw [if_pos c11] at H
              have c11b0 := decide_eq_true c11
              clear c11
              have c12 := cp_ H
              replace H := ca_ H
              have c12b0 := decide_eq_true c12
              clear c12
              have c13 := cp_ H
              replace H := ca_ H
              have c13b0 := decide_eq_true c13
              clear c13
              have H' := Aside0.mk H
              clear H
              have p245 : 0 ≤ (x19_2 : Int) := of_decide_eq_true qe_
              have q245 : x19_2 < (x3_1.length : Int) := of_decide_eq_true qe_
              obtain ⟨ad245, A245_0, c245_0, e245, hx245_0, hl245_0, hi245_0⟩ := at_L5 (Kd.N_reads' HO_17.out).2.2 x19_2 p245 q245
              cases e245
              obtain ⟨ce245, hce245, hMe245, hcc245⟩ := Kd.N_get HO_17.out [] x19_2 p245 (by first | exact q245 | exact of_decide_eq_true qe_ | (have e_ := (Kd.N_reads' HO_17.out).1; omega))
              obtain ⟨ua245_0, uc245_0, rfl, ul245_0, ge245_0⟩ := Kd.FK_slice_open hMe245
              have hv245_0 := hcc245 0 _ rfl
              rw [Nat.add_zero, show ((Kd.slice 3 (Kd.int .i64))).sz = 1 from rfl, Nat.mul_one] at hv245_0
              replace hv245_0 := Option.some.inj (hv245_0.symm.trans hx245_0)
              injection hv245_0 with hva_ hvn_ hvc_
              rw [hva_] at ge245_0
              rw [hvc_] at ul245_0
              have HL245_0 := Aside0.mk (show Kd.V (Kd.int .i64) 3 _ w.heap.size _ _ (rd_L5 x3_1 x19_2) from Kd.V_mk ul245_0 ge245_0)
              clear hva_ hvn_ hvc_ ge245_0 ul245_0
              clear hcc245 hce245
              have HR245_0 := Aside0.mk hi245_0
              have HC245_0 := Aside0.mk hl245_0
              clear hi245_0 hl245_0
              replace p245 := eq_true p245
              replace q245 := eq_true q245
              go_wp2
              go_loopg [5, 8] k2 (fun kq v5 v8 w' => ∃ (x5_3 : List (List Int)) (x8_3 : Int), v8 = .int .i64 x8_3 ∧ Aside0 (impl_allPerms.l2 kq a0 x4_1 x5_3 (rd_L5 x3_1 x19_2) x8_3 x3_1 (x3_1.length : Int) x19_2 = some r) ∧ Aside0 (kq ≤ k2) ∧ Aside0 (Kd.N (Kd.slice 3 (Kd.int .i64)) 23 w' w.heap.size (fun k_ => (w.heap.size ≤ k_) ∧ some k_ ≠ ((.slice (some ad245) x3_1.length co10) : Value).ownBlock) v5 x5_3) ∧ Aside0 (Kd.V (Kd.int .i64) 3 w' w.heap.size (fun k_ => (w.heap.size ≤ k_) ∧ some k_ ≠ (v5 : Value).ownBlock ∧ some k_ ≠ ((.slice (some ad245) x3_1.length co10) : Value).ownBlock) (.slice A245_0 (rd_L5 x3_1 x19_2).length c245_0) (rd_L5 x3_1 x19_2)) ∧ Aside0 (Kd.N (Kd.slice 3 (Kd.int .i64)) 23 w' w.heap.size (fun k_ => (w.heap.size ≤ k_) ∧ some k_ ≠ (v5 : Value).ownBlock) (.slice (some ad245) x3_1.length co10) x3_1) ∧ Aside0 (Below w.heap.size w w'))
              case atStart => exact ⟨(x5_2), (0), qc_, H', ⟨Nat.le_refl _⟩, ⟨by (with_reducible repeat (first | apply Kd.N_alloc | apply Kd.N_drewN | apply Kd.N_drew)); exact HO_5.out⟩, ⟨by (with_reducible repeat (first | apply Kd.V_alloc | apply Kd.V_drewN | apply Kd.V_drew)); exact Kd.V_mono HL245_0.out (fun _ hk => ⟨hk.1.1, ⟨hk.1.2, hk.2⟩⟩)⟩, ⟨by (with_reducible repeat (first | apply Kd.N_alloc | apply Kd.N_drewN | apply Kd.N_drew)); exact HO_17.out⟩, ⟨hB_⟩⟩
              case round =>
                clear H'
                obtain ⟨x5_3, x8_3, rfl, HA, HK3, HO_5, HO_7, HO_17, HB⟩ := hrel
                cases gk with
                | zero => exact absurd HA.out (by simp [impl_allPerms.l2])
                | succ k3 =>
                  have H := HA.out
                  clear HA
                  simp only [impl_allPerms.l2] at H
                  by_cases c14 : x8_3 < a0
                  · rw [if_pos c14] at H
                    have c14b0 := decide_eq_true c14
                    clear c14
                    obtain ⟨t246, A15, H⟩ := bi_ H
                    by_cases c16 : t246 = true
                    · subst c16
                      rw [if_pos rfl] at H
                      have H' := Aside0.mk H
                      clear H
                      go_wp2_with (first | ((with_reducible refine gate_callee (f := 99) rfl ?_); refine gL_ (some 30) Try.func99 #[.slice A245_0 (rd_L5 x3_1 x19_2).length c245_0, .int .i64 x8_3] rfl qa_ ?_; (with_reducible refine (slices_Contains_int_int.calls k3 _ _ (rd_L5 x3_1 x19_2) x8_3 true _ (cw_ ((Kd.V_reads' HO_7.out).2.2)) ((Kd.V_reads' HO_7.out).2.1) A15.out).mono ?_); rintro e w' ⟨rfl, ⟨nd, rfl⟩⟩; refine ⟨_, rfl, ?_⟩))
                      go_roundg k3
                      case measure => have := HK1.out; have := HK2.out; have := HK3.out; omega
                      case rel => exact ⟨(x5_3), (wrap64 (x8_3 + 1)), qc_, H', ⟨by have := HK1.out; have := HK2.out; have := HK3.out; omega⟩, ⟨by (with_reducible repeat (first | apply Kd.N_alloc | apply Kd.N_drewN | apply Kd.N_drew)); exact HO_5.out⟩, ⟨by (with_reducible repeat (first | apply Kd.V_alloc | apply Kd.V_drewN | apply Kd.V_drew)); exact HO_7.out⟩, ⟨by (with_reducible repeat (first | apply Kd.N_alloc | apply Kd.N_drewN | apply Kd.N_drew)); exact HO_17.out⟩, ⟨hB_⟩⟩
                    · replace c16 := Bool.eq_false_iff.mpr c16
                      subst c16
                      have H1 : ((impl_copyInts.f (rd_L5 x3_1 x19_2)).bind fun t247 => (if t247.length < 17592186044416 then (if x5_3.length < 5864062014805 then (impl_allPerms.l2 k3 a0 x4_1 (x5_3 ++ [(t247 ++ [x8_3])]) (rd_L5 x3_1 x19_2) (wrap64 (x8_3 + 1)) x3_1 (x3_1.length : Int) x19_2) else (none)) else (none))) = some r := by rw [if_neg (show ¬ (false = true) by decide)] at H; exact H
                      clear H
                      have H := H1
                      clear H1
                      obtain ⟨t247, A17, H⟩ := bi_ H
                      have c18 := cp_ H
                      replace H := ca_ H
                      have LMc18 := Aside0.mk c18
                      clear c18
                      obtain ⟨y250, hy250⟩ : ∃ y_ : List Int, y_ = (t247 ++ [x8_3]) := ⟨_, rfl⟩
                      replace H : (if x5_3.length < 5864062014805 then (impl_allPerms.l2 k3 a0 x4_1 (x5_3 ++ [y250]) (rd_L5 x3_1 x19_2) (wrap64 (x8_3 + 1)) x3_1 (x3_1.length : Int) x19_2) else (none)) = some r := by first | (rw [hy250]; exact H) | exact H
                      have Ny250 := Aside0.mk hy250
                      clear hy250
                      have c19 := cp_ H
                      replace H := ca_ H
                      have LMc19 := Aside0.mk c19
                      clear c19
                      obtain ⟨y253, hy253⟩ : ∃ y_ : List (List Int), y_ = (x5_3 ++ [y250]) := ⟨_, rfl⟩
                      replace H : (impl_allPerms.l2 k3 a0 x4_1 y253 (rd_L5 x3_1 x19_2) (wrap64 (x8_3 + 1)) x3_1 (x3_1.length : Int) x19_2) = some r := by first | (rw [hy253]; exact H) | exact H
                      have Ny253 := Aside0.mk hy253
                      clear hy253
                      have H' := Aside0.mk H
                      clear H
                      go_wp2_with (first | ((with_reducible refine gate_callee (f := 99) rfl ?_); refine gL_ (some 30) Try.func99 #[.slice A245_0 (rd_L5 x3_1 x19_2).length c245_0, .int .i64 x8_3] rfl qa_ ?_; (with_reducible refine (slices_Contains_int_int.calls k3 _ _ (rd_L5 x3_1 x19_2) x8_3 false _ (cw_ ((Kd.V_reads' HO_7.out).2.2)) ((Kd.V_reads' HO_7.out).2.1) A15.out).mono ?_); rintro e w' ⟨rfl, ⟨nd, rfl⟩⟩; refine ⟨_, rfl, ?_⟩) | ((with_reducible refine gate_callee (f := 100) rfl ?_); refine gL_ (some 34) Try.func100 #[.slice A245_0 (rd_L5 x3_1 x19_2).length c245_0] rfl qa_ ?_; (with_reducible refine (impl_copyInts.calls _ _ (rd_L5 x3_1 x19_2) t247 _ (cw_ ((Kd.V_reads' HO_7.out).2.2)) ((Kd.V_reads' HO_7.out).2.1) A17.out).mono ?_); rintro e w20 ⟨v248, rfl, ho0, hb⟩; refine ⟨_, rfl, ?_⟩; replace HO_5 := Aside0.mk (Kd.N_elder' (by (with_reducible repeat (first | apply Kd.N_alloc | apply Kd.N_drewN | apply Kd.N_drew)); exact HO_5.out) (Kd.R_base ho0) hb); replace HO_7 := Aside0.mk (Kd.V_elder' (by (with_reducible repeat (first | apply Kd.V_alloc | apply Kd.V_drewN | apply Kd.V_drew)); exact HO_7.out) (Kd.R_base ho0) hb); replace HO_17 := Aside0.mk (Kd.N_elder' (by (with_reducible repeat (first | apply Kd.N_alloc | apply Kd.N_drewN | apply Kd.N_drew)); exact HO_17.out) (Kd.R_base ho0) hb); have HO249 := Aside0.mk (Kd.R_lower (Kd.R_newM (M := fun k_ => (w.heap.size ≤ k_)) ho0 (below_size hB_) (fun k_ h_ => h_)) (below_size hB_)); replace HB := b1_ hb; clear hb ho0) | ((with_reducible refine gate_builtin (b := .append) (xs := #[.tmp 34, .tmp 36]) rfl ?_); at_builtin; refine Kd.R_append (Kd.int .i64) (w0 := w) w.heap.size rfl (.tmp 34) (.tmp 36) 23 3 (.int .i64 0) 8 rfl Try.underlying23 info3 rfl (by decide) (by omega) v248 t247 x8_3 [.int .i64 x8_3] (fun k_ => (w.heap.size ≤ k_)) (fun _ => False) rfl rfl ?aP (fun _ hk => hk.elim) ?aF ?aO ?aB ?aS ?aL ?_; (case aP => exact rfl); (case aB => exact hB_); (case aF => exact (fun k_ hk => (Nat.le_trans (below_size hB_) hk))); (case aO => exact (rw_ (Kd.R_mono HO249.out (fun _ hk => hk.1)))); (case aS => exact (below_size hB_)); (case aL => have := LMc18.out; omega); intro v251 w21 ho hb hg hat; rw [← Ny250.out] at ho; replace HO_5 := Aside0.mk (Kd.N_afterv (ok := (fun k_ => (w.heap.size ≤ k_) ∧ some k_ ≠ (.slice (some ad245) x3_1.length co10 : Value).ownBlock)) (by (with_reducible repeat (first | apply Kd.N_alloc | apply Kd.N_drewN | apply Kd.N_drew)); exact HO_5.out) hg hat); replace HO_7 := Aside0.mk (Kd.V_afterv (ok := (fun k_ => (w.heap.size ≤ k_) ∧ some k_ ≠ (u5 : Value).ownBlock ∧ some k_ ≠ (.slice (some ad245) x3_1.length co10 : Value).ownBlock)) (by (with_reducible repeat (first | apply Kd.V_alloc | apply Kd.V_drewN | apply Kd.V_drew)); exact HO_7.out) hg hat); replace HO_17 := Aside0.mk (Kd.N_afterv (ok := (fun k_ => (w.heap.size ≤ k_) ∧ some k_ ≠ (u5 : Value).ownBlock)) (by (with_reducible repeat (first | apply Kd.N_alloc | apply Kd.N_drewN | apply Kd.N_drew)); exact HO_17.out) hg hat); replace HB := Aside0.mk hb; have HO252 := Aside0.mk ho; clear HO249; clear ho hb hg hat; obtain ⟨Ao23, co23, eo23⟩ := Kd.R_slice HO252.out; subst eo23) | ((with_reducible refine gate_builtin (b := .append) (xs := #[.tmp 32, .tmp 38]) rfl ?_); at_builtin; refine Kd.N_append (Kd.slice 3 (Kd.int .i64)) (w0 := w) w.heap.size rfl (.tmp 32) (.tmp 38) 28 23 (.slice none 0 0) 24 rfl Try.underlying28 info23 rfl (by decide) (by omega) u5 x5_3 y250 [.slice Ao23 y250.length co23] (fun k_ => (w.heap.size ≤ k_) ∧ some k_ ≠ (.slice (some ad245) x3_1.length co10 : Value).ownBlock) (fun k_ => ((fun k_ => (w.heap.size ≤ k_) ∧ some k_ ≠ (.slice (some ad245) x3_1.length co10 : Value).ownBlock)) k_ ∧ some k_ ≠ (u5 : Value).ownBlock) rfl rfl ?aP (fun _ hk => hk) ?aF ?aO ?aB ?aS ?aL ?_; (case aP => exact (Kd.FK_slice_mk (Kd.R_reads' (Kd.R_mono (ok' := (fun k_ => ((fun k_ => (w.heap.size ≤ k_) ∧ some k_ ≠ (.slice (some ad245) x3_1.length co10 : Value).ownBlock)) k_ ∧ some k_ ≠ (u5 : Value).ownBlock)) (Kd.R_apart' (Kd.R_apart' (HO252.out) (Kd.N_typed HO_17.out) (by decide)) (Kd.N_typed HO_5.out) (by decide)) (fun k_ hk => ⟨⟨hk.1.1, hk.1.2⟩, hk.2⟩))).2.1 (Kd.R_F (Kd.R_mono (ok' := (fun k_ => ((fun k_ => (w.heap.size ≤ k_) ∧ some k_ ≠ (.slice (some ad245) x3_1.length co10 : Value).ownBlock)) k_ ∧ some k_ ≠ (u5 : Value).ownBlock)) (Kd.R_apart' (Kd.R_apart' (HO252.out) (Kd.N_typed HO_17.out) (by decide)) (Kd.N_typed HO_5.out) (by decide)) (fun k_ hk => ⟨⟨hk.1.1, hk.1.2⟩, hk.2⟩))))); (case aB => exact hB_); (case aF => exact (fun k_ hk => ⟨(Nat.le_trans (below_size hB_) hk), Kd.fresh' (Kd.N_lt (by (with_reducible repeat (first | apply Kd.N_alloc | apply Kd.N_drewN | apply Kd.N_drew)); exact HO_17.out)) k_ hk⟩)); (case aO => exact (by (with_reducible repeat (first | apply Kd.N_alloc | apply Kd.N_drewN | apply Kd.N_drew)); exact Kd.N_mono HO_5.out (fun _ hk => ⟨hk.1.1, hk.1.2⟩))); (case aS => exact (below_size hB_)); (case aL => have := LMc19.out; omega); intro v254 w22 ho hb hg hat; rw [← Ny253.out] at ho; replace HO_7 := Aside0.mk (Kd.V_afterv (ok := (fun k_ => (w.heap.size ≤ k_) ∧ some k_ ≠ (.slice (some ad245) x3_1.length co10 : Value).ownBlock ∧ some k_ ≠ (.slice Ao23 y250.length co23 : Value).ownBlock)) (by (with_reducible repeat (first | apply Kd.V_alloc | apply Kd.V_drewN | apply Kd.V_drew)); exact Kd.V_mono HO_7.out (fun _ hk => ⟨⟨hk.1.1, ⟨hk.1.2.2, hk.2⟩⟩, hk.1.2.1⟩)) hg hat); replace HO_17 := Aside0.mk (Kd.N_afterv (ok := (fun k_ => (w.heap.size ≤ k_) ∧ some k_ ≠ (.slice Ao23 y250.length co23 : Value).ownBlock)) (by (with_reducible repeat (first | apply Kd.N_alloc | apply Kd.N_drewN | apply Kd.N_drew)); exact Kd.N_mono HO_17.out (fun _ hk => ⟨⟨hk.1.1, hk.2⟩, hk.1.2⟩)) hg hat); replace HB := Aside0.mk hb; have HO255 := Aside0.mk ho; clear HO_5 HO252; clear ho hb hg hat))
                      go_roundg k3
                      case measure => have := HK1.out; have := HK2.out; have := HK3.out; omega
                      case rel => exact ⟨(y253), (wrap64 (x8_3 + 1)), qc_, H', ⟨by have := HK1.out; have := HK2.out; have := HK3.out; omega⟩, ⟨by (with_reducible repeat (first | apply Kd.N_alloc | apply Kd.N_drewN | apply Kd.N_drew)); exact HO255.out⟩, ⟨by (with_reducible repeat (first | apply Kd.V_alloc | apply Kd.V_drewN | apply Kd.V_drew)); exact Kd.V_mono HO_7.out (fun _ hk => ⟨hk.1.1, ⟨hk.2, hk.1.2.1⟩⟩)⟩, ⟨by (with_reducible repeat (first | apply Kd.N_alloc | apply Kd.N_drewN | apply Kd.N_drew)); exact Kd.N_mono HO_17.out (fun _ hk => ⟨hk.1.1, hk.2⟩)⟩, ⟨hB_⟩⟩
                  · rw [if_neg c14] at H
                    have c14b0 := decide_eq_false c14
                    clear c14
                    have H' := Aside0.mk H
                    clear H
                    go_wp2
                    go_roundg k3
                    case measure => have := HK1.out; have := HK2.out; have := HK3.out; omega
                    case rel => exact ⟨(x5_3), (wrap64 (x19_2 + 1)), qc_, H', ⟨by have := HK1.out; have := HK2.out; have := HK3.out; omega⟩, ⟨by (with_reducible repeat (first | apply Kd.N_alloc | apply Kd.N_drewN | apply Kd.N_drew)); exact HO_5.out⟩, ⟨by (with_reducible repeat (first | apply Kd.N_alloc | apply Kd.N_drewN | apply Kd.N_drew)); exact HO_17.out⟩, ⟨hB_⟩⟩
            · rw [if_neg c11] at H
              have c11b0 := decide_eq_false c11
              clear c11
              have H' := Aside0.mk H
              clear H
              go_wp2
              go_roundg k2
              case measure => have := HK1.out; have := HK2.out; omega
              case rel => exact ⟨(x5_2), (wrap64 (x4_1 + 1)), qc_, H', ⟨by have := HK1.out; have := HK2.out; omega⟩, ⟨by (with_reducible repeat (first | apply Kd.N_alloc | apply Kd.N_drewN | apply Kd.N_drew)); exact Kd.N_mono HO_5.out (fun _ hk => hk.1)⟩, ⟨hB_⟩⟩
      · rw [if_neg c7] at H
        have c7b0 := decide_eq_false c7
        clear c7
        obtain rfl := Option.some.inj H
        go_wp2
        go_ret
        exact ⟨_, qb_, by (with_reducible repeat (first | apply Kd.N_alloc | apply Kd.N_drewN | apply Kd.N_drew)); exact HO_3.out, hB_⟩
end Go.Proofs.Ytoijcallajegfaa.A
end
section
/- Sorting a row of the call's own: what slices.SortFunc leaves. No conditions. -/
namespace Go.Proofs.Ytoijcallajegfaa.M
set_option linter.unusedVariables false
set_option linter.unusedSimpArgs false
open Go Go.RowKit Go.Proofs.YtoijcallajegfaaW.PrintWords.Kd Go.Proofs.YtoijcallajegfaaW.PrintWords Go.Proofs.YtoijcallajegfaaW.PrintLast Go.Proofs.YtoijcallajegfaaW.PrintMore Go.Shelf Go.Lib Go.Sort Go.Proofs
structure Cel {α : Type} (d : Kd α) (Q : α → Prop) (w : World) (base : Nat) (ok : Nat → Prop) where
  x : α
  c : List Value
  h : d.M w base ok x c
  q : Q x
section
variable {α : Type} {d : Kd α} {Q : α → Prop} {w W : World} {ok : Nat → Prop} {e base g cap : Nat} {v : Value} {xs : List α}
theorem Cel.len (z : Cel d Q w base ok) : z.c.length = d.sz := d.K_len (d.K_of_M z.h)
theorem Cel.one (z : Cel d Q w base ok) : ∀ u ∈ z.c, u.oneCell' = true := d.K_one (d.K_of_M z.h)
theorem Cel.move (z : Cel d Q w base ok) (hm : ∀ k, ok k → k < w.heap.size → W.heap[k]? = w.heap[k]?) : d.M W base ok z.x z.c :=
  d.M_mono (fun _ hk => hk.1) (d.M_move (fun k hk => hm k hk.1 hk.2.2.1) (d.M_bound z.h))
theorem cels_of : ∀ (xs : List α) (rows : List (List Value)), rows.length = xs.length → (∀ x ∈ xs, Q x) → (∀ (j : Nat) (x : α) (c : List Value), xs[j]? = some x → rows[j]? = some c → d.M w base ok x c) →
    ∃ l : List (Cel d Q w base ok), l.map (·.x) = xs ∧ l.map (·.c) = rows
  | [], [], _, _, _ => ⟨[], rfl, rfl⟩
  | [], _ :: _, h, _, _ => by simp at h
  | _ :: _, [], h, _, _ => by simp at h
  | x :: xs, c :: rows, h, hq, hf => by
    obtain ⟨l, h1, h2⟩ := cels_of xs rows (by simpa using h) (fun y hy => hq y (List.mem_cons_of_mem _ hy)) (fun j y c' hy hc => hf (j + 1) y c' (by simpa using hy) (by simpa using hc))
    exact ⟨⟨x, c, hf 0 x c rfl rfl, hq x List.mem_cons_self⟩ :: l, by simp [h1], by simp [h2]⟩
theorem flat_lenK {sz : Nat} : ∀ {rows : List (List Value)}, (∀ c ∈ rows, c.length = sz) → rows.flatten.length = rows.length * sz
  | [], _ => by simp
  | c :: rows, h => by
    rw [List.flatten_cons, List.length_append, flat_lenK (fun c' hc => h c' (List.mem_cons_of_mem _ hc)), h c List.mem_cons_self, List.length_cons, Nat.add_mul, Nat.one_mul, Nat.add_comm]
theorem flat_chunk {sz : Nat} : ∀ {rows : List (List Value)} (j : Nat) (c : List Value), (∀ c ∈ rows, c.length = sz) → rows[j]? = some c → (rows.flatten.drop (j * sz)).take sz = c
  | [], j, c, _, h => by simp at h
  | r :: rows, 0, c, hl, h => by
    simp only [List.getElem?_cons_zero, Option.some.injEq] at h
    subst h
    have := hl r List.mem_cons_self
    rw [Nat.zero_mul, List.drop_zero, List.flatten_cons, List.take_append_of_le_length (by omega), List.take_of_length_le (by omega)]
  | r :: rows, j + 1, c, hl, h => by
    have h0 := hl r List.mem_cons_self
    have hd : r.drop sz = [] := List.drop_of_length_le (by omega)
    rw [List.flatten_cons, Nat.add_mul, Nat.one_mul, Nat.add_comm, ← List.drop_drop, List.drop_append_of_le_length (by omega), hd, List.nil_append]
    exact flat_chunk j c (fun c' hc => hl c' (List.mem_cons_of_mem _ hc)) (by simpa using h)
theorem flat_at {sz : Nat} {rows : List (List Value)} (hl : ∀ c ∈ rows, c.length = sz) {t : Nat} (ht : t < rows.length * sz) {c : List Value} (hc : rows[t / sz]? = some c) : rows.flatten[t]? = c[t % sz]? := by
  have h := flat_chunk (t / sz) c hl hc
  have hsz : 0 < sz := by
    rcases Nat.eq_zero_or_pos sz with h0 | h0
    · subst h0; simp at ht
    · exact h0
  have hm := Nat.mod_lt t hsz
  rw [← h, List.getElem?_take, if_pos hm, List.getElem?_drop, Nat.mul_comm, Nat.div_add_mod]
theorem R_of_cells {l : List (Cel d Q w base ok)} {okk : Nat → Prop} {cur : Array Value} (hg0 : okk g) (hbase : base ≤ g) (hW : ∀ k, k ≠ g → k < w.heap.size → W.heap[k]? = w.heap[k]?)
    (hg : W.heap[g]? = some (.cells cur e (0, 0))) (hn : l.length ≤ cap) (hm : cap ≤ maxLen) (hs : cur.size = cap * d.sz) (ht : cur.toList.take (l.length * d.sz) = (l.map (·.c)).flatten) (hok2 : ∀ k, ok k → okk k ∧ k ≠ g) :
    d.R e W base okk (.slice (some ⟨g, 0, none⟩) l.length cap) (l.map (·.x)) := by
  have hl : ∀ c ∈ l.map (·.c), c.length = d.sz := by
    intro c hc
    obtain ⟨z, _, rfl⟩ := List.mem_map.1 hc
    exact z.len
  refine ⟨fun k hk => ?_, (l.map (·.c)).flatten, ?_, ?_, ?_⟩
  · simp only [Value.ownBlock, Option.some.injEq] at hk; rw [← hk]; exact hg0
  · show World.ownsRow W base e d.sz _ _ _
    rw [List.length_map]
    exact ⟨by rw [flat_lenK hl, List.length_map], .inr ⟨g, cap, cur, rfl, hbase, hg, hn, hm, hs, ht⟩⟩
  · rw [flat_lenK hl, List.length_map, List.length_map]
  · intro j p hj
    rw [List.getElem?_map] at hj
    cases hz : l[j]? with
    | none => rw [hz] at hj; simp at hj
    | some z =>
      rw [hz] at hj
      simp only [Option.map_some, Option.some.injEq] at hj
      subst hj
      rw [flat_chunk j z.c hl (by rw [List.getElem?_map, hz]; rfl)]
      exact d.M_mono (fun k hk => ⟨(hok2 k hk).1, fun e_ => (hok2 k hk).2 (by simpa [Value.ownBlock] using e_)⟩) (z.move (fun k hk hlt => hW k (hok2 k hk).2 hlt))
theorem R_cells (h : d.R e w base ok v xs) (hq : ∀ x ∈ xs, Q x) (hp : 0 < xs.length) : ∃ g cap cur, v = .slice (some ⟨g, 0, none⟩) xs.length cap ∧ ok g ∧ base ≤ g ∧ g < w.heap.size ∧ w.heap[g]? = some (.cells cur e (0, 0)) ∧ xs.length ≤ cap ∧ cap ≤ maxLen ∧ cur.size = cap * d.sz ∧
    ∃ l : List (Cel d Q w base (fun k => ok k ∧ k ≠ g)), l.map (·.x) = xs ∧ cur.toList.take (xs.length * d.sz) = (l.map (·.c)).flatten := by
  obtain ⟨h0, inner, ho, hr⟩ := h
  obtain ⟨hlen, ho⟩ := ho
  rcases ho with ⟨rfl, hz⟩ | ⟨g, cap, cur, rfl, hb, hg, hn, hm, hs, ht⟩
  · omega
  · have hgl : g < w.heap.size := by
      rcases Nat.lt_or_ge g w.heap.size with h | h
      · exact h
      · rw [Array.getElem?_eq_none h] at hg; cases hg
    obtain ⟨l, h1, h2⟩ := cels_of (d := d) (w := w) (base := base) (Q := Q) (ok := fun k => ok k ∧ k ≠ g) xs (chunks d.sz xs.length inner) (chunks_length _ _ _) hq (fun j x c hx hc => by
      rw [chunks_get hc]
      exact d.M_mono (fun k hk => ⟨hk.1, fun e_ => hk.2 (by rw [e_]; rfl)⟩) (hr.2 j x hx))
    refine ⟨g, cap, cur, rfl, h0 g rfl, hb, hgl, hg, hn, hm, hs, l, h1, ?_⟩
    have hrl : ∀ c ∈ l.map (·.c), c.length = d.sz := by
      intro c hc
      obtain ⟨z, _, rfl⟩ := List.mem_map.1 hc
      exact z.len
    rw [ht]
    apply List.ext_getElem?
    intro t
    have hll : (l.map (·.c)).length = xs.length := by rw [List.length_map, ← h1, List.length_map]
    by_cases htl : t < xs.length * d.sz
    · have hsz : 0 < d.sz := by
        rcases Nat.eq_zero_or_pos d.sz with h | h
        · rw [h] at htl; simp at htl
        · exact h
      have hdiv : t / d.sz < xs.length := (Nat.div_lt_iff_lt_mul hsz).2 htl
      have hc := chunks_at (sz := d.sz) (inner := inner) hdiv
      rw [← h2] at hc
      rw [flat_at hrl (by rw [hll]; exact htl) hc]
      have hmod := Nat.mod_lt t hsz
      rw [List.getElem?_take, if_pos hmod, List.getElem?_drop, Nat.mul_comm, Nat.div_add_mod]
    · rw [List.getElem?_eq_none (by rw [hlen]; omega), List.getElem?_eq_none (by rw [flat_lenK hrl, hll]; omega)]
theorem row_after {cur F : Array Value} {m : Nat} {os : Array Obj} (hg : w.heap[g]? = some (.cells cur e (0, 0))) (hF : F.size ≤ cur.size) (hW : W = grow (putRow id (Sort.ahead w m) g 0 F) os) :
    W.heap[g]? = some (.cells (putCells id 0 F cur) e (0, 0)) ∧ (∀ k, k ≠ g → k < w.heap.size → W.heap[k]? = w.heap[k]?) ∧ w.heap.size ≤ W.heap.size ∧ W.os = w.os ∧ W.tape = w.tape ∧ W.output = w.output ∧ (putCells id 0 F cur).size = cur.size ∧ (putCells id 0 F cur).toList.take F.size = F.toList := by
  subst hW
  have hgl : g < w.heap.size := by
    rcases Nat.lt_or_ge g w.heap.size with h | h
    · exact h
    · rw [Array.getElem?_eq_none h] at hg; cases hg
  have hp : ∀ k, k < w.heap.size → (grow (putRow id (Sort.ahead w m) g 0 F) os).heap[k]? = (w.heap.modify g (onCells (putCells id 0 F)))[k]? := by
    intro k hk
    show ((w.heap.modify g (onCells (putCells id 0 F))) ++ os)[k]? = _
    rw [Array.getElem?_append_left (by simpa using hk)]
  refine ⟨?_, ?_, ?_, rfl, rfl, rfl, by simp [putCells], ?_⟩
  · rw [hp g hgl, Array.getElem?_modify, if_pos rfl, hg]; rfl
  · intro k hk hlt
    rw [hp k hlt, Array.getElem?_modify, if_neg (fun e_ => hk e_.symm)]
  · show w.heap.size ≤ ((w.heap.modify g (onCells (putCells id 0 F))) ++ os).size
    simp
  · apply List.ext_getElem?
    intro t
    by_cases ht : t < F.size
    · rw [List.getElem?_take, if_pos ht, Array.getElem?_toList, Array.getElem?_toList]
      have htc : t < cur.size := by omega
      simp only [putCells, Array.getElem?_mapIdx, Array.getElem?_eq_getElem htc, Array.getElem?_eq_getElem ht, Option.map_some, Nat.zero_le, true_and, Nat.zero_add, ht, if_true, Nat.sub_zero, id]
      rw [getElem!_pos F t ht]
    · rw [List.getElem?_eq_none (by simp; omega), List.getElem?_eq_none (by simp; omega)]
theorem flatK_list [Inhabited (Cel d Q w base ok)] (D : Array (Cel d Q w base ok)) : (flatK (·.c) d.sz D).toList = (D.toList.map (·.c)).flatten := by
  have hl : ∀ c ∈ D.toList.map (·.c), c.length = d.sz := by
    intro c hc
    obtain ⟨z, _, rfl⟩ := List.mem_map.1 hc
    exact z.len
  apply List.ext_getElem?
  intro t
  by_cases ht : t < D.size * d.sz
  · have hsz : 0 < d.sz := by
      rcases Nat.eq_zero_or_pos d.sz with h | h
      · rw [h] at ht; simp at ht
      · exact h
    have hdiv : t / d.sz < D.size := (Nat.div_lt_iff_lt_mul hsz).2 ht
    have hmod := Nat.mod_lt t hsz
    rw [flat_at hl (by simpa using ht) (c := D[t / d.sz].c) (by rw [List.getElem?_map, Array.getElem?_toList, Array.getElem?_eq_getElem hdiv]; rfl), Array.getElem?_toList]
    rw [Array.getElem?_eq_getElem (by rw [size_flatK]; exact ht)]
    have hg := get_flatK (fun z : Cel d Q w base ok => z.c) d.sz D t ht
    rw [getElem!_pos _ t (by rw [size_flatK]; exact ht), getElem!_pos D _ hdiv] at hg
    have hlen := D[t / d.sz].len
    rw [hg, getElem!_pos _ _ (by omega), List.getElem?_eq_getElem (by omega)]
  · rw [List.getElem?_eq_none (by simp; omega), List.getElem?_eq_none (by rw [flat_lenK hl]; simp; omega)]
theorem perm_list {β : Type} [Inhabited β] {D D' : Array β} (h : PermIn 0 D.size D D') : D'.toList.Perm D.toList := by
  obtain ⟨hs, _, hp⟩ := h
  have h1 : D.extract 0 D.size = D := by simp
  have h2 : D'.extract 0 D.size = D' := by rw [← hs]; simp
  rw [h1, h2] at hp
  exact hp
theorem sorted_list {β : Type} [Inhabited β] {lt : β → β → Bool} {D D' : Array β} (hs : D'.size = D.size) (h : SortedIn lt 0 D.size D') : D'.toList.Pairwise (fun a b => lt b a = false) := by
  rw [List.pairwise_iff_getElem]
  intro i j hi hj hij
  have hi' : i < D'.size := by simpa using hi
  have hj' : j < D'.size := by simpa using hj
  have := h i j (Nat.zero_le _) hij (by omega)
  rwa [getElem!_pos D' i hi', getElem!_pos D' j hj'] at this
theorem below_of {b : Nat} (hW : ∀ k, k ≠ g → k < w.heap.size → W.heap[k]? = w.heap[k]?) (hs : w.heap.size ≤ W.heap.size) (h1 : W.os = w.os) (h2 : W.tape = w.tape) (h3 : W.output = w.output) (hb : b ≤ g) (hg : g < w.heap.size) : Go.RowKit.Below b w W :=
  ⟨h1, h2, h3, hs, fun k hk => hW k (by omega) (by omega)⟩
structure Ord3 (Q : α → Prop) (cf : α → α → Int) : Prop where
  irr : ∀ x, Q x → ¬ cf x x < 0
  tr : ∀ x y z, Q x → Q y → Q z → cf x y < 0 → cf y z < 0 → cf x z < 0
  nt : ∀ x y z, Q x → Q y → Q z → ¬ cf x y < 0 → ¬ cf y z < 0 → ¬ cf x z < 0
theorem Ord3.swo {cf : α → α → Int} (h : Ord3 Q cf) : SWO (ltOf fun p q : Cel d Q w base ok => cf p.x q.x) where
  irrefl p := decide_eq_false (h.irr p.x p.q)
  trans p q r h1 h2 := decide_eq_true (h.tr p.x q.x r.x p.q q.q r.q (of_decide_eq_true h1) (of_decide_eq_true h2))
  ntrans p q r h1 h2 := decide_eq_false (h.nt p.x q.x r.x p.q q.q r.q (of_decide_eq_false h1) (of_decide_eq_false h2))
def SortedTo (d : Kd α) (cf : α → α → Int) (e : Nat) (w w' : World) (base : Nat) (ok : Nat → Prop) (v : Value) (xs : List α) : Prop :=
  ∃ xs' : List α, xs'.Perm xs ∧ xs'.Pairwise (fun a b => ¬ cf b a < 0) ∧ d.R e w' base ok v xs' ∧ Kept w w' (fun k => some k = v.ownBlock) ∧ Go.RowKit.Below base w w'
theorem sortedTo_nil {cf : α → α → Int} (h : d.R e w base ok v []) : SortedTo d cf e w w base ok v [] :=
  ⟨[], List.Perm.refl _, List.Pairwise.nil, h, Kept.refl _ _, Go.RowKit.Below.refl _ _⟩
theorem sortedTo_of {cf : α → α → Int} {D D' : Array (Cel d Q w base (fun k => ok k ∧ k ≠ g))} [Inhabited (Cel d Q w base (fun k => ok k ∧ k ≠ g))] {cur F : Array Value} {m : Nat} {os : Array Obj} (hD : D.toList.map (·.x) = xs) (hp : PermIn 0 D.size D D') (hs : SortedIn (ltOf fun p q : Cel d Q w base (fun k => ok k ∧ k ≠ g) => cf p.x q.x) 0 D.size D')
    (hF : F.toList = (D'.toList.map (·.c)).flatten) (hW : W = grow (putRow id (Sort.ahead w m) g 0 F) os) (hg0 : ok g) (hb : base ≤ g) (hgl : g < w.heap.size) (hg : w.heap[g]? = some (.cells cur e (0, 0))) (hn : xs.length ≤ cap) (hm : cap ≤ maxLen) (hc : cur.size = cap * d.sz) :
    SortedTo d cf e w W base ok (.slice (some ⟨g, 0, none⟩) xs.length cap) xs := by
  have hpl := perm_list hp
  have hlen : D'.toList.length = xs.length := by rw [hpl.length_eq, ← hD, List.length_map]
  have hFs : F.size = xs.length * d.sz := by
    have h1 : F.toList.length = _ := congrArg List.length hF
    rw [flat_lenK (fun c hc => by obtain ⟨z, _, rfl⟩ := List.mem_map.1 hc; exact z.len), List.length_map, hlen] at h1
    simpa using h1
  obtain ⟨a1, a2, a3, a4, a5, a6, a7, a8⟩ := row_after (W := W) hg (by rw [hFs, hc]; exact Nat.mul_le_mul_right _ hn) hW
  have hN := R_of_cells (l := D'.toList) (okk := ok) (base := base) (e := e) (cap := cap) hg0 hb a2 a1 (by omega) hm (by omega) (by rw [hlen, ← hFs, a8, hF]) (fun k hk => hk)
  rw [hlen] at hN
  refine ⟨D'.toList.map (·.x), ?_, ?_, hN, ⟨a3, fun k hk hne => a2 k (fun e_ => hne (by rw [e_]; rfl)) hk⟩, below_of a2 a3 a4 a5 a6 hb hgl⟩
  · rw [← hD]; exact hpl.map _
  · rw [List.pairwise_map]
    exact (sorted_list hp.1 hs).imp (fun h => of_decide_eq_false h)
end
section
variable {P : Program} {ρ : Ren} {α : Type} {d : Kd α} {Q : α → Prop} {w : World} {ok : Nat → Prop} {e base : Nat} {v : Value} {xs : List α}
set_option maxHeartbeats 2000000 in
theorem sortN (L : SlLaysF0.n6 P ρ) (aE : ∀ w, (isAgg (ρ.t 24)).run P w = .ok true w) (zE : ∀ w, (Go.sizeOf (ρ.t 24)).run P w = .ok d.sz w) {cf : α → α → Int} (hO : Ord3 Q cf) (f : Nat)
    (eg : ∀ args w, (callFunc f args).run P w = .ok (.enter f args) w) (hc : ∀ (W : World) (x y : α) (cx cy : List Value), Q x → Q y → d.K W x cx → d.K W y cy → Calls P f #[.agg cx.toArray, .agg cy.toArray] W fun e w' => e = .returned (.int .i64 (cf x y)) ∧ ∃ q os', w' = grow (W.drewN q) os')
    (h : d.R e w base ok v xs) (hq : ∀ x ∈ xs, Q x) (hsz : xs.length < 4611686018427387904) :
    Calls P (ρ.f 6) #[v, .func (.func f) #[] #[]] w fun e' w' => e' = .returned (.tuple #[]) ∧ SortedTo d cf e w w' base ok v xs := by
  rcases Nat.eq_zero_or_pos xs.length with h0 | hp
  · have hx : xs = [] := List.length_eq_zero_iff.1 h0
    subst hx
    obtain ⟨A, c, rfl⟩ := Kd.R_slice h
    exact (AnyF.slices_SortFunc_none L A c _ w).mono fun _ _ ⟨he, hw⟩ => ⟨he, by rw [hw]; exact sortedTo_nil h⟩
  · obtain ⟨g, cap, cur, rfl, hg0, hb, hgl, hg, hn, hm, hcs, l, hl1, hl2⟩ := R_cells h hq hp
    have hll : l.length = xs.length := by rw [← hl1, List.length_map]
    haveI : Inhabited (Cel d Q w base (fun k => ok k ∧ k ≠ g)) := ⟨l[0]'(by omega)⟩
    have hFl := flatK_list (d := d) (Q := Q) (w := w) (ok := fun k => ok k ∧ k ≠ g) l.toArray
    have hFs : (flatK (fun z : Cel d Q w base (fun k => ok k ∧ k ≠ g) => z.c) d.sz l.toArray).size = xs.length * d.sz := by rw [size_flatK]; simp [hll]
    have hcs' : xs.length * d.sz ≤ cur.size := by rw [hcs]; exact Nat.mul_le_mul_right _ hn
    have hH : HoldsK (fun z : Cel d Q w base (fun k => ok k ∧ k ≠ g) => z.c) d.sz w g 0 l.toArray := by
      intro j hj
      rw [hFs] at hj
      have h1 : cur[j]? = (flatK (fun z : Cel d Q w base (fun k => ok k ∧ k ≠ g) => z.c) d.sz l.toArray)[j]? := by
        rw [← Array.getElem?_toList, ← Array.getElem?_toList, hFl]
        show _ = (List.map _ l).flatten[j]?
        rw [← hl2, List.getElem?_take, if_pos hj]
      refine ⟨?_, ?_⟩
      · show w.cell? ⟨g, 0 + j, none⟩ = _
        rw [Nat.zero_add, getElem!_pos _ j (by rw [hFs]; exact hj)]
        simp only [World.cell?, hg, Option.isSome_none, Bool.false_eq_true, if_false]
        rw [h1, Array.getElem?_eq_getElem (by rw [hFs]; exact hj)]
        rfl
      · simp [World.frozen?, hg]
    have key := AnyQ.slices_SortFunc L d.sz aE zE (fun z : Cel d Q w base (fun k => ok k ∧ k ≠ g) => z.c) (fun z => z.len) (fun z => z.one) (fun p q => cf p.x q.x) hO.swo f #[] g 0 cap l.toArray w eg
      (fun m os dk hs p q => by
        have hh : ∀ (z : Cel d Q w base (fun k => ok k ∧ k ≠ g)), d.K (sortWorldK (fun z : Cel d Q w base (fun k => ok k ∧ k ≠ g) => z.c) d.sz w g 0 m dk os) z.x z.c := fun z => d.K_of_M (z.move (fun k hk hlt => (row_after hg (F := flatK (fun z : Cel d Q w base (fun k => ok k ∧ k ≠ g) => z.c) d.sz dk) (by rw [size_flatK, hs]; simpa [hll] using hcs') rfl).2.1 k hk.2 hlt))
        exact hc _ p.x q.x p.c q.c p.q q.q (hh p) (hh q)) hH hgl (by simpa [hll] using hsz)
    have hsz' : l.toArray.size = xs.length := by simp [hll]
    rw [hsz'] at key
    refine key.mono ?_
    rintro e' w' ⟨rfl, D', n, os, hp', hs', rfl⟩
    rw [← hsz'] at hp' hs'
    exact ⟨rfl, sortedTo_of (D := l.toArray) (D' := D') (by simpa using hl1) hp' hs' (flatK_list D') rfl hg0 hb hgl hg hn hm hcs⟩
set_option maxHeartbeats 2000000 in
theorem sortN1 (L : SlLaysF.n6 P ρ) (L0 : SlLaysF0.n6 P ρ) (hd : d.sz = 1) {cf : α → α → Int} (hO : Ord3 Q cf) (f : Nat)
    (eg : ∀ args w, (callFunc f args).run P w = .ok (.enter f args) w) (hc : ∀ (W : World) (x y : α) (cx cy : Value), Q x → Q y → d.K W x [cx] → d.K W y [cy] → Calls P f #[cx, cy] W fun e w' => e = .returned (.int .i64 (cf x y)) ∧ ∃ q os', w' = grow (W.drewN q) os')
    (h : d.R e w base ok v xs) (hq : ∀ x ∈ xs, Q x) (hsz : xs.length < 4611686018427387904) :
    Calls P (ρ.f 6) #[v, .func (.func f) #[] #[]] w fun e' w' => e' = .returned (.tuple #[]) ∧ SortedTo d cf e w w' base ok v xs := by
  rcases Nat.eq_zero_or_pos xs.length with h0 | hp
  · have hx : xs = [] := List.length_eq_zero_iff.1 h0
    subst hx
    obtain ⟨A, c, rfl⟩ := Kd.R_slice h
    exact (AnyF.slices_SortFunc_none L0 A c _ w).mono fun _ _ ⟨he, hw⟩ => ⟨he, by rw [hw]; exact sortedTo_nil h⟩
  · obtain ⟨g, cap, cur, rfl, hg0, hb, hgl, hg, hn, hm, hcs, l, hl1, hl2⟩ := R_cells h hq hp
    have hll : l.length = xs.length := by rw [← hl1, List.length_map]
    haveI : Inhabited (Cel d Q w base (fun k => ok k ∧ k ≠ g)) := ⟨l[0]'(by omega)⟩
    obtain ⟨enc, one⟩ : ∃ enc : Cel d Q w base (fun k => ok k ∧ k ≠ g) → Value, ∀ z, z.c = [enc z] := ⟨fun z => z.c.headD .nilIface, fun z => by
      have hz := z.len
      rw [hd] at hz
      obtain ⟨u, hu⟩ := List.length_eq_one_iff.1 hz
      show z.c = [z.c.headD .nilIface]
      rw [hu]; rfl⟩
    have hfl : ∀ r : List (Cel d Q w base (fun k => ok k ∧ k ≠ g)), (r.map (·.c)).flatten = r.map enc := by
      intro r
      induction r with
      | nil => rfl
      | cons z r ih => rw [List.map_cons, List.map_cons, List.flatten_cons, ih, one z]; rfl
    have hput : ∀ (w' : World) (D : Array (Cel d Q w base (fun k => ok k ∧ k ≠ g))), putRow enc w' g 0 D = putRow id w' g 0 (D.map enc) := by
      intro w' D
      unfold putRow
      apply mapBlock_congr
      intro c e fr _
      unfold putCells
      apply Array.ext
      · simp
      · intro i h1 h2
        simp only [Array.getElem_mapIdx, Array.size_map, id]
        by_cases hi : 0 ≤ i ∧ i < 0 + D.size
        · rw [if_pos hi, if_pos hi, getElem!_pos D _ (by omega), getElem!_pos (D.map _) _ (by simp; omega), Array.getElem_map]
        · rw [if_neg hi, if_neg hi]
    have hsw : ∀ m (D : Array (Cel d Q w base (fun k => ok k ∧ k ≠ g))) os, sortWorld enc w g 0 m D os = grow (putRow id (Sort.ahead w m) g 0 (D.map enc)) os := by
      intro m D os
      unfold sortWorld
      rw [hput]
    have hcs' : xs.length ≤ cur.size := by rw [hcs, hd]; omega
    have hsame : ∀ m (D : Array (Cel d Q w base (fun k => ok k ∧ k ≠ g))) os, D.size = xs.length → ∀ k, k ≠ g → k < w.heap.size → (sortWorld enc w g 0 m D os).heap[k]? = w.heap[k]? := by
      intro m D os hD
      rw [hsw]
      exact (row_after hg (F := D.map enc) (by rw [Array.size_map, hD]; exact hcs') rfl).2.1
    have hH : Holds enc w g 0 l.toArray := by
      intro j hj
      have hj' : j < l.length := by simpa using hj
      refine ⟨?_, ?_⟩
      · show w.cell? ⟨g, 0 + j, none⟩ = _
        rw [Nat.zero_add, getElem!_pos _ j hj]
        simp only [World.cell?, hg, Option.isSome_none, Bool.false_eq_true, if_false]
        rw [hd, Nat.mul_one, hfl] at hl2
        have h1 := congrArg (fun r => r[j]?) hl2
        simp only [List.getElem?_take, List.getElem?_map] at h1
        rw [if_pos (by omega), Array.getElem?_toList, List.getElem?_eq_getElem hj'] at h1
        rw [h1]
        rfl
      · simp [World.frozen?, hg]
    have key := Any.slices_SortFunc L enc (fun z => z.one _ (by rw [one z]; exact List.mem_singleton.2 rfl)) (fun p q => cf p.x q.x) hO.swo f #[] g 0 cap l.toArray w eg
      (fun m os dk hs p q => by
        have hh : ∀ (z : Cel d Q w base (fun k => ok k ∧ k ≠ g)), d.K (sortWorld enc w g 0 m dk os) z.x [enc z] := fun z => by
          have h1 := d.K_of_M (z.move (W := sortWorld enc w g 0 m dk os) (fun k hk hlt => hsame m dk os (by rw [hs]; simpa using hll) k hk.2 hlt))
          rw [one z] at h1
          exact h1
        exact hc _ p.x q.x _ _ p.q q.q (hh p) (hh q)) hH hgl (by simpa [hll] using hsz)
    have hsz' : l.toArray.size = xs.length := by simp [hll]
    rw [hsz'] at key
    refine key.mono ?_
    rintro e' w' ⟨rfl, D', n, os, hp', hs', rfl⟩
    rw [← hsz'] at hp' hs'
    refine ⟨rfl, ?_⟩
    rw [hsw n D' os]
    exact sortedTo_of (D := l.toArray) (D' := D') (F := D'.map enc) (by simpa using hl1) hp' hs' (by rw [Array.toList_map, hfl]) rfl hg0 hb hgl hg hn hm hcs
end
section
variable {α : Type} {d : Kd α} {Q : α → Prop} {w W : World} {ok : Nat → Prop} {e base g cap : Nat} {v : Value} {xs : List α}
theorem idxOf_nodup : ∀ (l : List Nat) (j : Nat) (a : Nat), l.Nodup → l[j]? = some a → l.idxOf a = j
  | [], j, a, _, h => by simp at h
  | b :: l, 0, a, _, h => by simp at h; subst h; simp
  | b :: l, j + 1, a, hn, h => by
    have h' : l[j]? = some a := by simpa using h
    have hm := List.mem_of_getElem? h'
    have hne : b ≠ a := fun e_ => (List.nodup_cons.1 hn).1 (e_ ▸ hm)
    have ih := idxOf_nodup l j a (List.nodup_cons.1 hn).2 h'
    rw [List.idxOf_cons]
    have hb : (b == a) = false := beq_eq_false_iff_ne.2 hne
    rw [hb, ih]; rfl
theorem S_of_tag {f : Nat → Nat} {ys : List (α × Nat)} (h : (Kd.tag f d).R e w base ok v ys) (hn : (ys.map (·.2)).Nodup) : Kd.S d e w base ok v (ys.map (·.1)) := by
  obtain ⟨h0, inner, ho, hr⟩ := h
  refine ⟨fun k => (ys.map (·.2)).idxOf (f k), h0, inner, ?_, ?_, ?_⟩
  · rw [List.length_zipIdx, List.length_map]; exact ho
  · rw [List.length_zipIdx, List.length_map]; exact hr.1
  · intro j p hj
    rw [List.getElem?_zipIdx, List.getElem?_map] at hj
    cases hy : ys[j]? with
    | none => rw [hy] at hj; simp at hj
    | some y =>
      rw [hy] at hj
      simp only [Option.map_some, Option.some.injEq, Nat.zero_add] at hj
      subst hj
      refine d.M_mono (fun k hk => ⟨hk.1, ?_⟩) (hr.2 j y hy)
      show (ys.map (·.2)).idxOf (f k) = j
      rw [hk.2]
      exact idxOf_nodup _ j _ hn (by rw [List.getElem?_map, hy]; rfl)
theorem zip_nodup (xs : List α) : (xs.zipIdx.map (·.2)).Nodup := by
  rw [List.zipIdx_map_snd]
  exact List.nodup_range'
theorem zip_fst (xs : List α) : xs.zipIdx.map (·.1) = xs := List.zipIdx_map_fst 0 xs
def SortedToS (d : Kd α) (cf : α → α → Int) (e : Nat) (w w' : World) (base : Nat) (ok : Nat → Prop) (v : Value) (xs : List α) : Prop :=
  ∃ xs' : List α, xs'.Perm xs ∧ xs'.Pairwise (fun a b => ¬ cf b a < 0) ∧ Kd.S d e w' base ok v xs' ∧ Kept w w' (fun k => some k = v.ownBlock) ∧ Go.RowKit.Below base w w'
theorem sortedS_of {f : Nat → Nat} {cf : α → α → Int} (h : SortedTo (Kd.tag f d) (fun p q => cf p.1 q.1) e w W base ok v xs.zipIdx) : SortedToS d cf e w W base ok v xs := by
  obtain ⟨ys, h1, h2, h3, h4, h5⟩ := h
  refine ⟨ys.map (·.1), ?_, ?_, S_of_tag h3 ?_, h4, h5⟩
  · have := h1.map (·.1)
    rwa [zip_fst] at this
  · rw [List.pairwise_map]; exact h2
  · exact (h1.map (·.2)).nodup_iff.2 (zip_nodup xs)
theorem Ord3.fst {cf : α → α → Int} (h : Ord3 Q cf) : Ord3 (fun p : α × Nat => Q p.1) (fun p q => cf p.1 q.1) where
  irr p hp := h.irr p.1 hp
  tr p q r hp hq hr := h.tr p.1 q.1 r.1 hp hq hr
  nt p q r hp hq hr := h.nt p.1 q.1 r.1 hp hq hr
theorem zip_all (h : ∀ x ∈ xs, Q x) : ∀ p ∈ xs.zipIdx, Q p.1 := fun p hp => h p.1 (by
  have := List.mem_map_of_mem (f := (·.1)) hp
  rwa [zip_fst] at this)
end
section
variable {α β : Type}
def cptGo (eqf : α → α → Bool) : α → List α → List α
  | _, [] => []
  | p, y :: r => if eqf y p then cptGo eqf y r else y :: cptGo eqf y r
def cpt (eqf : α → α → Bool) : List α → List α
  | [] => []
  | x :: r => x :: cptGo eqf x r
theorem cptGo_sub (eqf : α → α → Bool) : ∀ (p : α) (l : List α), (cptGo eqf p l).Sublist l
  | _, [] => List.Sublist.refl _
  | p, y :: r => by
    unfold cptGo
    split
    · exact (cptGo_sub eqf y r).cons _
    · exact (cptGo_sub eqf y r).cons_cons _
theorem cpt_sub (eqf : α → α → Bool) : ∀ l : List α, (cpt eqf l).Sublist l
  | [] => List.Sublist.refl _
  | x :: r => (cptGo_sub eqf x r).cons_cons _
theorem cptGo_map (f : β → α) (eqf : α → α → Bool) : ∀ (p : β) (l : List β), (cptGo (fun a b => eqf (f a) (f b)) p l).map f = cptGo eqf (f p) (l.map f)
  | _, [] => rfl
  | p, y :: r => by
    simp only [cptGo, List.map_cons]
    split
    · exact cptGo_map f eqf y r
    · rw [List.map_cons, cptGo_map f eqf y r]
theorem cpt_map (f : β → α) (eqf : α → α → Bool) : ∀ l : List β, (cpt (fun a b => eqf (f a) (f b)) l).map f = cpt eqf (l.map f)
  | [] => rfl
  | x :: r => by simp only [cpt, List.map_cons, cptGo_map]
theorem cptGo_snoc (eqf : α → α → Bool) (x : α) : ∀ (p : α) (l : List α), cptGo eqf p (l ++ [x]) = cptGo eqf p l ++ (if eqf x ((p :: l).getLast (by simp)) then [] else [x])
  | p, [] => by
    show (if eqf x p then [] else [x]) = [] ++ (if eqf x p then [] else [x])
    rw [List.nil_append]
  | p, y :: r => by
    have e : (p :: y :: r).getLast (by simp) = (y :: r).getLast (by simp) := List.getLast_cons (by simp)
    rw [e]
    simp only [List.cons_append, cptGo]
    rw [cptGo_snoc eqf x y r]
    split <;> simp
theorem cpt_snoc (eqf : α → α → Bool) (x : α) (l : List α) (h : l ≠ []) : cpt eqf (l ++ [x]) = cpt eqf l ++ (if eqf x (l.getLast h) then [] else [x]) := by
  cases l with
  | nil => exact absurd rfl h
  | cons y r => simp only [List.cons_append, cpt]; rw [cptGo_snoc]
variable [Inhabited α]
def keepsB (eqf : α → α → Bool) (d : Array α) (j : Nat) : Bool := j == 0 || !(eqf d[j]! d[j - 1]!)
theorem cpt_take (eqf : α → α → Bool) (d : Array α) (m : Nat) (h : m < d.size) : cpt eqf (d.toList.take (m + 1)) = cpt eqf (d.toList.take m) ++ (if keepsB eqf d m then [d[m]!] else []) := by
  have hl : m < d.toList.length := by simpa using h
  rw [List.take_add_one, List.getElem?_eq_getElem hl]
  have hm : d.toList[m] = d[m]! := by rw [getElem!_pos d m h]; simp
  rw [hm]
  rcases Nat.eq_zero_or_pos m with h0 | h0
  · subst h0; simp [cpt, cptGo, keepsB]
  · have hne : d.toList.take m ≠ [] := by
      intro e_
      have h1 := congrArg List.length e_
      have h2 : d.toList.length = d.size := by simp
      rw [List.length_take, h2] at h1
      have h3 : min m d.size = 0 := h1
      omega
    show cpt eqf (d.toList.take m ++ [d[m]!]) = _
    rw [cpt_snoc eqf _ _ hne]
    have hlast : (d.toList.take m).getLast hne = d[m - 1]! := by
      rw [List.getLast_eq_getElem]
      have h1 : (d.toList.take m).length - 1 = m - 1 := by rw [List.length_take]; simp; omega
      simp only [h1, List.getElem_take]
      rw [getElem!_pos d (m - 1) (by omega)]
      simp
    rw [hlast]
    have : (m == 0) = false := by simp; omega
    simp only [keepsB, this, Bool.false_or]
    cases eqf d[m]! d[m - 1]! <;> simp
structure CompB (eqf : α → α → Bool) (d : Array α) (m k : Nat) (dk : Array α) : Prop where
  size : dk.size = d.size
  len : (cpt eqf (d.toList.take m)).length = k
  le : k ≤ m
  low : ∀ j, j < k → (cpt eqf (d.toList.take m))[j]? = some dk[j]!
  high : ∀ j, k ≤ j → dk[j]! = d[j]!
variable {eqf : α → α → Bool} {d dk : Array α} {m k : Nat}
theorem CompB.one (h : 0 < d.size) : CompB eqf d 1 1 d := by
  have h0 : d.toList.take 1 = [d[0]!] := by
    have := List.take_add_one (l := d.toList) (i := 0)
    rw [List.getElem?_eq_getElem (by simpa using h)] at this
    rw [this, getElem!_pos d 0 h]; simp
  refine ⟨rfl, by rw [h0]; rfl, Nat.le_refl _, fun j hj => ?_, fun _ _ => rfl⟩
  obtain rfl : j = 0 := by omega
  rw [h0]; rfl
theorem CompB.skip (h : CompB eqf d m k dk) (hm : m < d.size) (hk : keepsB eqf d m = false) : CompB eqf d (m + 1) k dk where
  size := h.size
  len := by rw [cpt_take eqf d m hm, hk]; simpa using h.len
  le := by have := h.le; omega
  low := fun j hj => by rw [cpt_take eqf d m hm, hk]; simpa using h.low j hj
  high := h.high
theorem CompB.keep (h : CompB eqf d m k dk) (hm : m < d.size) (hk : keepsB eqf d m = true) : CompB eqf d (m + 1) (k + 1) (dk.setIfInBounds k d[m]!) where
  size := by simp [h.size]
  len := by rw [cpt_take eqf d m hm, hk]; simp [h.len]
  le := by have := h.le; omega
  low := fun j hj => by
    rw [cpt_take eqf d m hm, hk, if_pos rfl]
    by_cases e_ : j = k
    · subst e_
      rw [List.getElem?_append_right (by rw [h.len]; exact Nat.le_refl _), h.len, Nat.sub_self, Go.Sort.getElem!_set_same dk j _ (by have := h.le; have := h.size; omega)]
      rfl
    · rw [List.getElem?_append_left (by rw [h.len]; omega), h.low j (by omega), Go.Sort.getElem!_set_other dk k j _ e_]
  high := fun j hj => by rw [Go.Sort.getElem!_set_other dk k j _ (by omega), h.high j (by omega)]
theorem CompB.same (h : CompB eqf d m m d) (hm : m < d.size) (hk : keepsB eqf d m = true) : CompB eqf d (m + 1) (m + 1) d where
  size := rfl
  len := by rw [cpt_take eqf d m hm, hk]; simp [h.len]
  le := Nat.le_refl _
  low := fun j hj => by
    rw [cpt_take eqf d m hm, hk, if_pos rfl]
    by_cases e_ : j = m
    · subst e_
      rw [List.getElem?_append_right (by rw [h.len]; exact Nat.le_refl _), h.len, Nat.sub_self]
      rfl
    · rw [List.getElem?_append_left (by rw [h.len]; omega), h.low j (by omega)]
  high := fun _ _ => rfl
theorem CompB.done (h : CompB eqf d d.size k dk) : dk.toList.take k = cpt eqf d.toList ∧ k = (cpt eqf d.toList).length := by
  have ht : d.toList.take d.size = d.toList := by rw [List.take_of_length_le]; simp
  have hl := h.len
  have hlow := h.low
  rw [ht] at hl hlow
  refine ⟨?_, hl.symm⟩
  apply List.ext_getElem?
  intro j
  have hle := h.le
  have hsz := h.size
  by_cases hj : j < k
  · rw [List.getElem?_take, if_pos hj, hlow j hj, Array.getElem?_toList, Array.getElem?_eq_getElem (by omega), getElem!_pos dk j (by omega)]
  · rw [List.getElem?_eq_none (by simp; omega), List.getElem?_eq_none (by omega)]
end
section
variable {α : Type} {d : Kd α} {Q : α → Prop} {w W W' : World} {ok : Nat → Prop} {e base g cap : Nat} {v : Value} {xs : List α}
theorem after_set : ∀ (vs : List Value) (o : Nat) (W : World) (cur : Array Value), W.heap[g]? = some (.cells cur e (0, 0)) →
    ∃ cur', (W.setCells g o vs).heap[g]? = some (.cells cur' e (0, 0)) ∧ cur'.size = cur.size ∧ (∀ t, t < o → cur'[t]? = cur[t]?) ∧ (∀ k, k ≠ g → (W.setCells g o vs).heap[k]? = W.heap[k]?) ∧ (W.setCells g o vs).heap.size = W.heap.size ∧ (W.setCells g o vs).os = W.os ∧ (W.setCells g o vs).tape = W.tape ∧ (W.setCells g o vs).output = W.output
  | [], o, W, cur, h => ⟨cur, h, rfl, fun _ _ => rfl, fun _ _ => rfl, rfl, rfl, rfl, rfl⟩
  | u :: r, o, W, cur, h => by
    have h1 : (W.setCell ⟨g, o, none⟩ u).heap[g]? = some (.cells (cur.setIfInBounds o u) e (0, 0)) := by
      rw [setCell_eq]
      show (W.heap.modify g (onCells _))[g]? = _
      rw [Array.getElem?_modify, if_pos rfl, h]; rfl
    obtain ⟨cur', a1, a2, a3, a4, a5, a6, a7, a8⟩ := after_set r (o + 1) (W.setCell ⟨g, o, none⟩ u) _ h1
    refine ⟨cur', a1, by rw [a2]; simp, fun t ht => ?_, fun k hk => ?_, ?_, a6, a7, a8⟩
    · rw [a3 t (by omega), Array.getElem?_setIfInBounds, if_neg (by omega)]
    · rw [World.setCells, a4 k hk, setCell_eq]
      show (W.heap.modify g (onCells _))[k]? = _
      rw [Array.getElem?_modify, if_neg (fun e_ => hk e_.symm)]
    · rw [World.setCells, a5, setCell_eq]
      show (W.heap.modify g (onCells _)).size = _
      simp
def CompactTo (d : Kd α) (eqf : α → α → Bool) (e : Nat) (w w' : World) (base : Nat) (ok : Nat → Prop) (v v' : Value) (xs : List α) : Prop :=
  d.R e w' base ok v' (cpt eqf xs) ∧ Kept w w' (fun k => some k = v.ownBlock) ∧ Go.RowKit.Below base w w'
theorem compR_of [Inhabited (Cel d Q w base (fun k => ok k ∧ k ≠ g))] {D dk : Array (Cel d Q w base (fun k => ok k ∧ k ≠ g))} {eqf : α → α → Bool} {kk m : Nat} {F cur : Array Value} {os : Array Obj} (hC : CompB (fun p q : Cel d Q w base (fun k => ok k ∧ k ≠ g) => eqf p.x q.x) D D.size kk dk) (hD : D.toList.map (·.x) = xs)
    (hF : F.toList = (dk.toList.map (·.c)).flatten) (hW : W = grow (putRow id (Sort.ahead w m) g 0 F) os) (hW' : W' = W ∨ ∃ vs, W' = W.setCells g (kk * d.sz) vs) (hg0 : ok g) (hb : base ≤ g) (hgl : g < w.heap.size) (hg : w.heap[g]? = some (.cells cur e (0, 0))) (hn : xs.length ≤ cap) (hm : cap ≤ maxLen) (hc : cur.size = cap * d.sz) :
    CompactTo d eqf e w W' base ok (.slice (some ⟨g, 0, none⟩) xs.length cap) (.slice (some ⟨g, 0, none⟩) kk cap) xs := by
  obtain ⟨hcp, hk⟩ := hC.done
  have hlen : dk.size = xs.length := by rw [hC.size, ← hD]; simp
  have hlenD : D.toList.length = xs.length := by rw [← hD]; simp
  have hkk : kk ≤ xs.length := by rw [hk, ← hlenD]; exact (cpt_sub _ _).length_le
  have hl : ∀ c ∈ dk.toList.map (·.c), c.length = d.sz := by
    intro c hc
    obtain ⟨z, _, rfl⟩ := List.mem_map.1 hc
    exact z.len
  have hFs : F.size = xs.length * d.sz := by
    have h1 : F.toList.length = _ := congrArg List.length hF
    rw [flat_lenK hl, List.length_map] at h1
    rw [← hlen]
    simpa using h1
  have hle : F.size ≤ cur.size := by rw [hFs, hc]; exact Nat.mul_le_mul_right _ hn
  obtain ⟨a1, a2, a3, a4, a5, a6, a7, a8⟩ := row_after (W := W) hg hle hW
  have hkm : kk * d.sz ≤ xs.length * d.sz := Nat.mul_le_mul_right _ hkk
  have hpre : ∀ t, t < kk * d.sz → (putCells id 0 F cur)[t]? = ((dk.toList.take kk).map (·.c)).flatten[t]? := by
    intro t ht
    have h1 : (putCells id 0 F cur).toList[t]? = F.toList[t]? := by
      rw [← a8, List.getElem?_take, if_pos (by omega)]
    rw [Array.getElem?_toList] at h1
    rw [h1, hF]
    conv => lhs; rw [← List.take_append_drop kk dk.toList, List.map_append, List.flatten_append]
    rw [List.getElem?_append_left]
    rw [flat_lenK (fun c hc => hl c (by obtain ⟨z, hz, rfl⟩ := List.mem_map.1 hc; exact List.mem_map_of_mem (List.mem_of_mem_take hz))), List.length_map, List.length_take]
    simp only [Array.length_toList]
    rw [Nat.min_eq_left (by omega)]
    exact ht
  have fin : ∀ (X : World) (cur' : Array Value), X.heap[g]? = some (.cells cur' e (0, 0)) → cur'.size = cur.size → (∀ t, t < kk * d.sz → cur'[t]? = (putCells id 0 F cur)[t]?) → (∀ k, k ≠ g → k < w.heap.size → X.heap[k]? = w.heap[k]?) →
      d.R e X base ok (.slice (some ⟨g, 0, none⟩) kk cap) (cpt eqf xs) := by
    intro X cur' h1 h2 h3 h4
    have hll : (dk.toList.take kk).length = kk := by rw [List.length_take]; simp only [Array.length_toList]; omega
    have := R_of_cells (l := dk.toList.take kk) (W := X) (okk := ok) (base := base) (e := e) (cap := cap) hg0 hb h4 h1 (by omega) hm (by omega) (by
      rw [hll]
      apply List.ext_getElem?
      intro t
      by_cases ht : t < kk * d.sz
      · rw [List.getElem?_take, if_pos ht, Array.getElem?_toList, h3 t ht, hpre t ht]
      · rw [List.getElem?_eq_none (by simp; omega), List.getElem?_eq_none]
        rw [flat_lenK (fun c hc => hl c (by obtain ⟨z, hz, rfl⟩ := List.mem_map.1 hc; exact List.mem_map_of_mem (List.mem_of_mem_take hz))), List.length_map, hll]
        omega) (fun k hk => hk)
    rw [hll, hcp, cpt_map (fun z : Cel d Q w base (fun k => ok k ∧ k ≠ g) => z.x), hD] at this
    exact this
  rcases hW' with rfl | ⟨vs, rfl⟩
  · exact ⟨fin _ _ a1 a7 (fun _ _ => rfl) a2, ⟨a3, fun k hk hne => a2 k (fun e_ => hne (by rw [e_]; rfl)) hk⟩, below_of a2 a3 a4 a5 a6 hb hgl⟩
  · obtain ⟨cur', b1, b2, b3, b4, b5, b6, b7, b8⟩ := after_set vs (kk * d.sz) W _ a1
    have h4 : ∀ k, k ≠ g → k < w.heap.size → (W.setCells g (kk * d.sz) vs).heap[k]? = w.heap[k]? := fun k hk hlt => by rw [b4 k hk, a2 k hk hlt]
    have h5 : w.heap.size ≤ (W.setCells g (kk * d.sz) vs).heap.size := by rw [b5]; exact a3
    exact ⟨fin _ _ b1 (by rw [b2, a7]) b3 h4, ⟨h5, fun k hk hne => h4 k (fun e_ => hne (by rw [e_]; rfl)) hk⟩, below_of h4 h5 (b6.trans a4) (b7.trans a5) (b8.trans a6) hb hgl⟩
end
end Go.Proofs.Ytoijcallajegfaa.M
end
section
/- Runs of equal surfaces struck out: the walk of slices.CompactFunc. No conditions. -/
namespace Go.Proofs.Ytoijcallajegfaa.M
set_option linter.unusedVariables false
set_option linter.unusedSimpArgs false
open Go Go.RowKit Go.Proofs.YtoijcallajegfaaW.PrintWords Go.Proofs.YtoijcallajegfaaW.PrintLast Go.Proofs.YtoijcallajegfaaW.PrintMore Go.Shelf Go.Lib Go.Sort Go.Proofs
theorem two_of_len {l : List Value} (h : l.length = 2) : ∃ a b, l = [a, b] := by
  match l, h with
  | [a, b], _ => exact ⟨a, b, rfl⟩
theorem swk_cell {α : Type} [Inhabited α] {enc : α → List Value} {w0 W : World} {blk off : Nat} {dk d0 : Array α} (h : SWK enc 2 w0 blk off dk W) (R : RowK enc 2 w0 blk off d0) (n : Nat) (os : Array Obj) {i : Nat} (hi : i < dk.size) {a b : Value} (hv : enc dk[i]! = [a, b]) (hs : dk.size = d0.size := by first | rfl | assumption) :
    (grow (W.drewN n) os).cell? ⟨blk, off + i * 2, none⟩ = some a ∧ (grow (W.drewN n) os).cell? ⟨blk, off + i * 2 + 1, none⟩ = some b := by
  have hh := (h.grown n os).holds R.hblk R.hH hs
  have h0 := (hh.cell (c := 0) hi (by omega)).1
  have h1 := (hh.cell (c := 1) hi (by omega)).1
  rw [hv] at h0 h1
  exact ⟨h0, h1⟩
theorem run_clear_two (w : World) (t e ty : TypeId) (ht : Try.prog.underlying t = some (.slice e)) (hv : ∀ w, (zeroValue e).run Try.prog w = .ok (.agg #[.slice none 0 0, .slice none 0 0]) w) (b o n c : Nat) (hn : 0 < n)
    (hc : ∀ j, j < n * 2 → (w.cell? ⟨b, o + j, none⟩).isSome = true) (hf : ∀ j, j < n * 2 → w.frozen? ⟨b, o + j, none⟩ = false) :
    ∃ vs, (Builtin.clear_ #[t] ty #[.slice (some ⟨b, o, none⟩) n c]).run Try.prog w = .ok (.tuple #[]) (w.setCells b o vs) := by
  obtain ⟨vs, hvs⟩ : ∃ vs, vs = (Builtin.zeroCells (Value.agg #[.slice none 0 0, .slice none 0 0]).cells n).toList := ⟨_, rfl⟩
  have hl : vs.length = n * 2 := by rw [hvs]; simp [Builtin.zeroCells, Value.cells]
  have h1 : ∀ v ∈ vs, v.oneCell' = true := by
    intro v hv'
    rw [hvs] at hv'
    simp only [Builtin.zeroCells, Value.cells, Array.toList_map, List.mem_map] at hv'
    obtain ⟨i, _, rfl⟩ := hv'
    have h2 : i % 2 = 0 ∨ i % 2 = 1 := by omega
    rcases h2 with h2 | h2 <;> simp [h2, Value.oneCell']
  have hst := run_storeCells_cells (P := Try.prog) b o vs 0 w (by rw [hl]; simpa using hc) (by rw [hl]; simpa using hf) h1
  simp only [Nat.add_zero] at hst
  refine ⟨vs, ?_⟩
  obtain ⟨m, rfl⟩ : ∃ m, n = m + 1 := ⟨n - 1, by omega⟩
  simp [Builtin.clear_, run_underlying ht, hv, ← hvs, hst]
theorem setMany_put {α : Type} [Inhabited α] (enc : α → List Value) (k : Nat) (hk : ∀ x, (enc x).length = k) (d : Array α) (i : Nat) (x : α) (hi : i < d.size) : setMany (flatK enc k d) (i * k) (enc x) = flatK enc k (d.setIfInBounds i x) := by
  refine ext_get! (by simp) fun t ht => ?_
  have ht' : t < d.size * k := by simpa using ht
  have k0 : 0 < k := by
    rcases Nat.eq_zero_or_pos k with h | h
    · subst h; simp at ht'
    · exact h
  rw [get_setMany _ _ _ t (by simpa using ht'), get_flatK _ _ _ t ht', get_flatK _ _ _ t (by simpa using ht'), hk]
  have m : ∀ q, t / k = q → t - q * k = t % k := fun q h => by subst h; rw [Nat.mod_eq_sub_div_mul]
  by_cases a : t / k = i
  · rw [if_pos ((blk_iff k i t k0).2 a), m i a, a, getElem!_set_same d i x hi]
  · rw [if_neg (fun h => a ((blk_iff k i t k0).1 h)), getElem!_set_other d i _ x a]
theorem swk_put {α : Type} [Inhabited α] {enc : α → List Value} {w0 W : World} {blk off : Nat} {dk : Array α} (h : SWK enc 2 w0 blk off dk W) (hk : ∀ x, (enc x).length = 2) (hb : blk < w0.heap.size) {i : Nat} (hi : i < dk.size) (x : α) {a b : Value} (hx : enc x = [a, b]) :
    SWK enc 2 w0 blk off (dk.setIfInBounds i x) ((W.setCell ⟨blk, off + i * 2, none⟩ a).setCell ⟨blk, off + i * 2 + 1, none⟩ b) := by
  obtain ⟨n, os, rfl⟩ := h
  refine ⟨n, os, ?_⟩
  show (sortWorldK enc 2 w0 blk off n dk os).setCells blk (off + i * 2) [a, b] = _
  unfold sortWorldK
  rw [setCells_grow os blk _ _ _ (by rw [size_putRowK]; exact hb)]
  congr 1
  unfold putRowK
  have hle := rowK_bnd dk 2 i hi
  rw [setCells_putRow _ _ _ _ _ _ (by rw [size_flatK]; simpa using hle), ← hx, setMany_put enc 2 hk dk i x hi]
theorem swk_frozen {α : Type} [Inhabited α] {enc : α → List Value} {w0 W : World} {blk off : Nat} {dk d0 : Array α} (h : SWK enc 2 w0 blk off dk W) (R : RowK enc 2 w0 blk off d0) (hs : dk.size = d0.size) {j : Nat} (hj : j < dk.size * 2) :
    (W.cell? ⟨blk, off + j, none⟩).isSome = true ∧ W.frozen? ⟨blk, off + j, none⟩ = false := by
  have hh := h.holds R.hblk R.hH hs
  have := hh j (by rw [size_flatK]; exact hj)
  exact ⟨by rw [this.1]; rfl, this.2⟩
set_option maxHeartbeats 4000000 in
set_option maxRecDepth 1000000 in
theorem compact_walk {α : Type} [Inhabited α] (enc : α → List Value) (eqf : α → α → Bool) (f blk off cap : Nat) (d : Array α) (w : World) (R : RowK enc 2 w blk off d)
    (eg : ∀ args w, (callFunc f args).run Try.prog w = .ok (.enter f args) w)
    (hcmp : ∀ (W : World), (∃ dk : Array α, dk.size = d.size ∧ SWK enc 2 w blk off dk W) → ∀ x y, Calls Try.prog f #[.agg (enc x).toArray, .agg (enc y).toArray] W fun e w' => e = .returned (.bool (eqf x y)) ∧ ∃ q os', w' = grow (W.drewN q) os')
    (h0 : 0 < d.size) (hsz : d.size < 4611686018427387904) (hcap : d.size ≤ cap) :
    Calls Try.prog 102 #[.slice (some ⟨blk, off, none⟩) d.size cap, .func (.func f) #[] #[]] w fun e w' => ∃ kk, e = .returned (.slice (some ⟨blk, off, none⟩) kk cap) ∧ ∃ dk W, CompB eqf d d.size kk dk ∧ SWK enc 2 w blk off dk W ∧ (w' = W ∨ ∃ vs, w' = W.setCells blk (off + kk * 2) vs) := by
  have HS : Aside (SWK enc 2 w blk off d w) := SWK.start R.hH
  have HR : Aside (RowK enc 2 w blk off d) := R
  have HC : Aside _ := hcmp
  clear R hcmp
  have hmix : Try.prog.follows .mixedOrders = true := by kernel_rfl
  go_enter Try.func102, Try.ntmps102
  by_cases h2 : d.size < 2
  · have h2z : (d.size : Int) < 2 := by omega
    go_wp2
    go_ret
    have e1 : d.size = 1 := by omega
    exact ⟨1, by rw [e1]; rfl, d, w, by have := CompB.one (eqf := eqf) h0; rw [e1]; exact this, HS.out, .inl rfl⟩
  · have h2z : ¬ (d.size : Int) < 2 := by omega
    go_wp2
    go_loopg [5] d.size (fun g1 v5 wr => ∃ (kx : Nat), v5 = .int .i64 kx ∧ 1 ≤ kx ∧ kx ≤ d.size ∧ d.size - kx ≤ g1 ∧ Aside (SWK enc 2 w blk off d wr) ∧ Hid (CompB eqf d kx kx d))
    case atStart => exact ⟨1, by go_num, by omega, by omega, by omega, HS, CompB.one h0⟩
    case round =>
      clear HS
      obtain ⟨kx, rfl, hk1, hk2, hg1, S1, hC⟩ := hrel
      by_cases hlt : kx < d.size
      · have hltz : (kx : Int) < (d.size : Int) := by omega
        obtain ⟨kp, rfl⟩ : ∃ kp, kx = kp + 1 := ⟨kx - 1, by omega⟩
        obtain ⟨xk, hxk⟩ : ∃ x, x = d[kp + 1]! := ⟨_, rfl⟩
        obtain ⟨xp, hxp⟩ : ∃ x, x = d[kp]! := ⟨_, rfl⟩
        have pk : (0 : Int) ≤ (kp : Int) + 1 := by omega
        have ek : ((kp : Int) + 1).toNat = kp + 1 := by omega
        have bk : (kp : Int) + 1 < (d.size : Int) := by omega
        have bp : (kp : Int) < (d.size : Int) := by omega
        have wp : IntKind.i64.wrap (kp : Int) = (kp : Int) := by rw [IntKind.wrap_i64]; omega
        obtain ⟨a0, a1, ha⟩ : ∃ a0 a1, enc xk = [a0, a1] := two_of_len (HR.out.hk xk)
        obtain ⟨b0, b1, hb⟩ : ∃ b0 b1, enc xp = [b0, b1] := two_of_len (HR.out.hk xp)
        have lk0 := fun n os => swk_cell S1.out HR.out n os (i := kp + 1) (by omega) (by rw [← hxk]; exact ha)
        have lp0 := fun n os => swk_cell S1.out HR.out n os (i := kp) (by omega) (by rw [← hxp]; exact hb)
        have lk1 := fun n os => (lk0 n os).2
        have lp1 := fun n os => (lp0 n os).2
        replace lk0 := fun n os => (lk0 n os).1
        replace lp0 := fun n os => (lp0 n os).1
        have hc : ∀ n os, Calls Try.prog f #[.agg (enc xk).toArray, .agg (enc xp).toArray] (grow (wr.drewN n) os) fun e w' => e = .returned (.bool (eqf xk xp)) ∧ ∃ q os', w' = grow ((grow (wr.drewN n) os).drewN q) os' := fun n os => HC.out _ ⟨d, rfl, S1.out.grown n os⟩ xk xp
        have hkeep : Hid (keepsB eqf d (kp + 1) = !(eqf xk xp)) := by
          show _ = _
          unfold keepsB
          rw [hxk, hxp]
          simp
        rw [ha, hb] at hc
        clear hxk hxp
        cases hv : eqf xk xp with
        | false =>
          rw [hv] at hc
          go_wp2_with fail
          go_quiet_grown (first | (go_at_fn f; refine Calls.grown_of (hc _ _)))
          have S2 : Aside (SWK enc 2 w blk off d (grow (wr.drewN nq) osq)) := S1.out.grown nq osq
          clear lk0 lk1 lp0 lp1 hc S1
          generalize grow (wr.drewN nq) osq = wu2 at S2 ⊢
          clear nq osq
          go_wp2
          go_roundg (d.size - (kp + 1 + 1))
          case measure => omega
          case rel => exact ⟨kp + 1 + 1, by go_num, by omega, by omega, by omega, S2, hC.out.same (by omega) (by rw [hkeep.out, hv]; rfl)⟩
        | true =>
          rw [hv] at hc
          go_wp2_with fail
          go_quiet_grown (first | (go_at_fn f; refine Calls.grown_of (hc _ _)))
          have S2 : Aside (SWK enc 2 w blk off d (grow (wr.drewN nq) osq)) := S1.out.grown nq osq
          clear lk0 lk1 lp0 lp1 hc S1
          generalize grow (wr.drewN nq) osq = wu2 at S2 ⊢
          clear nq osq
          have hC2 : Hid (CompB eqf d (kp + 1 + 1) (kp + 1) d) := hC.out.skip (by omega) (by rw [hkeep.out, hv]; rfl)
          clear hC
          clear ha hb hkeep hv
          go_wp2
          go_loopg [5, 7] d.size (fun g2 v5 v7 wr2 => ∃ (kk k2 : Nat) (dk : Array α), v5 = .int .i64 kk ∧ v7 = .int .i64 k2 ∧ 1 ≤ k2 ∧ kp + 1 + k2 ≤ d.size ∧ kk < kp + 1 + k2 ∧ d.size - (kp + 1 + k2) ≤ g2 ∧ dk.size = d.size ∧ Aside (SWK enc 2 w blk off dk wr2) ∧ Hid (CompB eqf d (kp + 1 + k2) kk dk))
          case atStart => exact ⟨kp + 1, 1, d, by go_num, by go_num, by omega, by omega, by omega, by omega, rfl, S2, hC2⟩
          case round =>
            clear S2 hC2
            obtain ⟨kk, k2, dk, rfl, rfl, h1, hle, hkk, hg2, hds, S3, hC3⟩ := hrel
            by_cases hlt2 : kp + 1 + k2 < d.size
            · obtain ⟨j, rfl⟩ : ∃ j, k2 = j + 1 := ⟨k2 - 1, by omega⟩
              have hltz2 : (j : Int) + 1 < ((d.size - (kp + 1) : Nat) : Int) := by omega
              obtain ⟨xu, hxu⟩ : ∃ x, x = dk[kp + 1 + (j + 1)]! := ⟨_, rfl⟩
              obtain ⟨xv, hxv⟩ : ∃ x, x = dk[kp + 1 + j]! := ⟨_, rfl⟩
              have p1 : (0 : Int) ≤ (j : Int) + 1 := by omega
              have e1 : ((j : Int) + 1).toNat = j + 1 := by omega
              have w1 : IntKind.i64.wrap (j : Int) = (j : Int) := by rw [IntKind.wrap_i64]; omega
              have p2 : (j : Int) < ((d.size - (kp + 1) : Nat) : Int) := by omega
              obtain ⟨a0, a1, ha⟩ : ∃ a0 a1, enc xu = [a0, a1] := two_of_len (HR.out.hk xu)
              obtain ⟨b0, b1, hb⟩ : ∃ b0 b1, enc xv = [b0, b1] := two_of_len (HR.out.hk xv)
              have lk0 := fun n os => swk_cell S3.out HR.out n os (i := kp + 1 + (j + 1)) (by omega) (by rw [← hxu]; exact ha) hds
              have lp0 := fun n os => swk_cell S3.out HR.out n os (i := kp + 1 + j) (by omega) (by rw [← hxv]; exact hb) hds
              rw [show off + (kp + 1 + (j + 1)) * 2 = off + (kp + 1) * 2 + (j + 1) * 2 by omega] at lk0
              rw [show off + (kp + 1 + j) * 2 = off + (kp + 1) * 2 + j * 2 by omega] at lp0
              have lk1 := fun n os => (lk0 n os).2
              have lp1 := fun n os => (lp0 n os).2
              replace lk0 := fun n os => (lk0 n os).1
              replace lp0 := fun n os => (lp0 n os).1
              have hc : ∀ n os, Calls Try.prog f #[.agg (enc xu).toArray, .agg (enc xv).toArray] (grow (wr.drewN n) os) fun e w' => e = .returned (.bool (eqf xu xv)) ∧ ∃ q os', w' = grow ((grow (wr.drewN n) os).drewN q) os' := fun n os => HC.out _ ⟨dk, hds, S3.out.grown n os⟩ xu xv
              have hkeep : Hid (keepsB eqf d (kp + 1 + (j + 1)) = !(eqf xu xv)) := by
                show _ = _
                unfold keepsB
                rw [hxu, hxv, hC3.out.high _ (by omega), hC3.out.high _ (by omega), show kp + 1 + (j + 1) - 1 = kp + 1 + j by omega]
                have : (kp + 1 + (j + 1) == 0) = false := by simp
                rw [this, Bool.false_or]
              have hxd : Hid (xu = d[kp + 1 + (j + 1)]!) := by
                show _ = _
                rw [hxu, hC3.out.high _ (by omega)]
              have HA : Hid (enc xu = [a0, a1]) := ha
              rw [ha, hb] at hc
              clear hxu hxv ha hb
              cases hv : eqf xu xv with
              | true =>
                rw [hv] at hc
                go_wp2_with fail
                go_quiet_grown (first | (go_at_fn f; refine Calls.grown_of (hc _ _)))
                have S4 : Aside (SWK enc 2 w blk off dk (grow (wr.drewN nq) osq)) := S3.out.grown nq osq
                clear lk0 lk1 lp0 lp1 hc S3
                generalize grow (wr.drewN nq) osq = wu2 at S4 ⊢
                clear nq osq
                go_wp2
                go_roundg (d.size - (kp + 1 + (j + 1 + 1)))
                case measure => omega
                case rel => exact ⟨kk, j + 1 + 1, dk, by go_num, by go_num, by omega, by omega, by omega, by omega, hds, S4, hC3.out.skip (by omega) (by rw [hkeep.out, hv]; rfl)⟩
              | false =>
                rw [hv] at hc
                go_wp2_with fail
                go_quiet_grown (first | (go_at_fn f; refine Calls.grown_of (hc _ _)))
                have S4 : Aside (SWK enc 2 w blk off dk (grow (wr.drewN nq) osq)) := S3.out.grown nq osq
                replace lk0 := lk0 nq osq
                replace lk1 := lk1 nq osq
                clear lp0 lp1 hc S3
                generalize grow (wr.drewN nq) osq = wu2 at S4 lk0 lk1 ⊢
                clear nq osq
                have s0 := (swk_frozen S4.out HR.out hds (j := kk * 2) (by omega))
                have s1 := (swk_frozen S4.out HR.out hds (j := kk * 2 + 1) (by omega))
                obtain ⟨o0, c0⟩ := Option.isSome_iff_exists.1 s0.1
                obtain ⟨o1, c1⟩ := Option.isSome_iff_exists.1 s1.1
                have f0 := s0.2
                have f1 := s1.2
                rw [← Nat.add_assoc] at c1 f1
                clear s0 s1
                have oa := HR.out.h1 xu a0 (by rw [HA.out]; simp)
                have ob := HR.out.h1 xu a1 (by rw [HA.out]; simp)
                have bk2 : (kk : Int) < (d.size : Int) := by omega
                have t0 : Sem.run Try.prog (store ⟨blk, off + kk * 2, none⟩ a0) wu2 = .ok () (wu2.setCell ⟨blk, off + kk * 2, none⟩ a0) := by
                  rw [run_store _ _ _ _ _ oa]
                  simp [c0, f0]
                have t1 : Sem.run Try.prog (store ⟨blk, off + kk * 2 + 1, none⟩ a1) (wu2.setCell ⟨blk, off + kk * 2, none⟩ a0) = .ok () ((wu2.setCell ⟨blk, off + kk * 2, none⟩ a0).setCell ⟨blk, off + kk * 2 + 1, none⟩ a1) := by
                  rw [run_store _ _ _ _ _ ob]
                  have c1' : (wu2.setCell ⟨blk, off + kk * 2, none⟩ a0).cell? ⟨blk, off + kk * 2 + 1, none⟩ = some o1 := by rw [World.cell?_setCell_other _ _ _ _ (by intro e_; injection e_ with _ h2 _; omega)]; exact c1
                  have f1' : (wu2.setCell ⟨blk, off + kk * 2, none⟩ a0).frozen? ⟨blk, off + kk * 2 + 1, none⟩ = false := by rw [World.frozen?_setCell]; exact f1
                  simp [c1', f1']
                have S5 : Aside (SWK enc 2 w blk off (dk.setIfInBounds kk xu) ((wu2.setCell ⟨blk, off + kk * 2, none⟩ a0).setCell ⟨blk, off + kk * 2 + 1, none⟩ a1)) := swk_put S4.out HR.out.hk HR.out.hblk (by omega) xu HA.out
                go_wp2
                go_roundg (d.size - (kp + 1 + (j + 1 + 1)))
                case measure => omega
                case rel => exact ⟨kk + 1, j + 1 + 1, dk.setIfInBounds kk xu, by go_num, by go_num, by omega, by omega, by omega, by omega, by simpa using hds, S5, by rw [hxd.out]; exact hC3.out.keep (by omega) (by rw [hkeep.out, hv]; rfl)⟩
            · have hend : kp + 1 + k2 = d.size := by omega
              have hltz2 : ¬ (k2 : Int) < ((d.size - (kp + 1) : Nat) : Int) := by omega
              obtain ⟨vs, hcl⟩ := run_clear_two wr 25 33 0 Try.underlying25 Try.zeroValue33 blk (off + kk * 2) (d.size - kk) (cap - kk) (by omega) (fun j hj => by rw [Nat.add_assoc]; exact (swk_frozen S3.out HR.out hds (by omega)).1) (fun j hj => by rw [Nat.add_assoc]; exact (swk_frozen S3.out HR.out hds (by omega)).2)
              go_wp2
              go_ret
              have hI := hC3.out
              rw [hend] at hI
              exact ⟨kk, rfl, dk, hI, _, S3.out, .inr ⟨vs, rfl⟩⟩
      · have hltz : ¬ (kx : Int) < (d.size : Int) := by omega
        go_wp2
        go_ret
        have e1 : kx = d.size := by omega
        subst e1
        exact ⟨d.size, rfl, d, hC.out, _, S1.out, .inl rfl⟩
end Go.Proofs.Ytoijcallajegfaa.M
end
section
/- Plain mathematics: permutations as lists of numbers. No conditions. -/
namespace Go.Proofs.Ytoijcallajegfaa.M
set_option linter.unusedVariables false
set_option linter.unusedSimpArgs false
def I (l : List Nat) : List Int := l.map Int.ofNat
def g (p : List Nat) (i : Nat) : Nat := p.getD i 0
def tab (n : Nat) (f : Nat → Nat) : List Nat := (List.range n).map f
theorem I_len (l : List Nat) : (I l).length = l.length := by simp [I]
theorem I_inj {a b : List Nat} (h : I a = I b) : a = b := by
  unfold I at h
  exact (List.map_inj_right (fun x y hxy => Int.ofNat.inj hxy)).mp h
theorem tab_len (n : Nat) (f : Nat → Nat) : (tab n f).length = n := by simp [tab]
theorem g_tab {n : Nat} {f : Nat → Nat} {i : Nat} (h : i < n) : g (tab n f) i = f i := by simp [g, tab, List.getD_eq_getElem?_getD, h]
theorem g_get {p : List Nat} {i : Nat} (h : i < p.length) : g p i = p[i] := by simp [g, List.getD_eq_getElem?_getD, h]
theorem g_mem {p : List Nat} {i : Nat} (h : i < p.length) : g p i ∈ p := by rw [g_get h]; exact List.getElem_mem h
theorem mem_g {p : List Nat} {x : Nat} (h : x ∈ p) : ∃ i, i < p.length ∧ g p i = x := by
  obtain ⟨i, hi, rfl⟩ := List.mem_iff_getElem.mp h
  exact ⟨i, hi, g_get hi⟩
theorem ext_g {a b : List Nat} (hl : a.length = b.length) (h : ∀ i, i < a.length → g a i = g b i) : a = b := by
  apply List.ext_getElem hl
  intro i h1 h2
  rw [← g_get h1, ← g_get h2]
  exact h i h1
theorem eq_tab {l : List Nat} {n : Nat} {f : Nat → Nat} (hl : l.length = n) (h : ∀ i, i < n → g l i = f i) : l = tab n f :=
  ext_g (by rw [tab_len, hl]) (fun i hi => by rw [hl] at hi; rw [g_tab hi, h i hi])
theorem g_set {p : List Nat} {i x j : Nat} (h : i < p.length) : g (p.set i x) j = if i = j then x else g p j := by
  unfold g
  rw [List.getD_eq_getElem?_getD, List.getD_eq_getElem?_getD, List.getElem?_set]
  by_cases e : i = j
  · subst e
    simp [h]
  · simp [e]
theorem I_set (p : List Nat) (i x : Nat) : (I p).set i (x : Int) = I (p.set i x) := by simp [I, List.map_set]
theorem I_snoc (p : List Nat) (x : Nat) : I p ++ [(x : Int)] = I (p ++ [x]) := by simp [I]
theorem I_rep (n x : Nat) : I (List.replicate n x) = List.replicate n (x : Int) := by simp [I]
structure IsP (p : List Nat) : Prop where
  lt : ∀ x ∈ p, x < p.length
  nd : p.Nodup
instance (p : List Nat) : Decidable (IsP p) := decidable_of_iff ((∀ x ∈ p, x < p.length) ∧ p.Nodup) ⟨fun h => ⟨h.1, h.2⟩, fun h => ⟨h.lt, h.nd⟩⟩
theorem nodup_le (n : Nat) : ∀ l : List Nat, l.Nodup → (∀ x ∈ l, x < n) → l.length ≤ n := by
  induction n with
  | zero =>
    intro l _ h
    cases l with
    | nil => simp
    | cons a l => exact absurd (h a (by simp)) (by omega)
  | succ n ih =>
    intro l hn h
    have h1 := ih (l.erase n) (hn.erase n) (fun x hx => by
      have h2 := (List.Nodup.mem_erase_iff hn).mp hx
      have h3 := h x h2.2
      have h4 := h2.1
      omega)
    have h5 := @List.length_erase _ _ _ n l
    split at h5 <;> omega
theorem mem_all {p : List Nat} (hp : IsP p) {x : Nat} (h : x < p.length) : x ∈ p := by
  apply Classical.byContradiction
  intro hx
  have := nodup_le p.length (x :: p) (List.nodup_cons.mpr ⟨hx, hp.nd⟩) (fun y hy => by
    rcases List.mem_cons.mp hy with rfl | hy
    · exact h
    · exact hp.lt y hy)
  simp at this
  omega
theorem g_lt {p : List Nat} (hp : IsP p) {i : Nat} (h : i < p.length) : g p i < p.length := hp.lt _ (g_mem h)
theorem g_inj {p : List Nat} (hp : IsP p) {i j : Nat} (hi : i < p.length) (hj : j < p.length) (h : g p i = g p j) : i = j := by
  rw [g_get hi, g_get hj] at h
  have hw := List.pairwise_iff_getElem.mp hp.nd
  rcases Nat.lt_trichotomy i j with hij | hij | hij
  · exact absurd h (hw i j hi hj hij)
  · exact hij
  · exact absurd h.symm (hw j i hj hi hij)
def ix (p : List Nat) (x : Nat) : Nat := p.idxOf x
theorem ix_lt {p : List Nat} (hp : IsP p) {x : Nat} (h : x < p.length) : ix p x < p.length := List.idxOf_lt_length_of_mem (mem_all hp h)
theorem g_ix {p : List Nat} (hp : IsP p) {x : Nat} (h : x < p.length) : g p (ix p x) = x := by
  rw [g_get (ix_lt hp h)]
  exact List.getElem_idxOf (ix_lt hp h)
theorem ix_g {p : List Nat} (hp : IsP p) {i : Nat} (h : i < p.length) : ix p (g p i) = i :=
  g_inj hp (ix_lt hp (g_lt hp h)) h (g_ix hp (g_lt hp h))
theorem ix_eq {p : List Nat} (hp : IsP p) {i x : Nat} (h : i < p.length) (e : g p i = x) : ix p x = i := by rw [← e]; exact ix_g hp h
theorem isP_mk {p : List Nat} (h1 : ∀ i, i < p.length → g p i < p.length) (h2 : ∀ i j, i < p.length → j < p.length → g p i = g p j → i = j) : IsP p := by
  refine ⟨fun x hx => ?_, ?_⟩
  · obtain ⟨i, hi, rfl⟩ := mem_g hx
    exact h1 i hi
  · refine List.pairwise_iff_getElem.mpr ?_
    intro i j hi hj hij e'
    rw [← g_get hi, ← g_get hj] at e'
    have := h2 i j hi hj e'
    omega
theorem isP_tab {n : Nat} {f : Nat → Nat} (h1 : ∀ i, i < n → f i < n) (h2 : ∀ i j, i < n → j < n → f i = f j → i = j) : IsP (tab n f) := by
  refine isP_mk (fun i hi => ?_) (fun i j hi hj e => ?_)
  · rw [tab_len] at hi ⊢; rw [g_tab hi]; exact h1 i hi
  · rw [tab_len] at hi hj; rw [g_tab hi, g_tab hj] at e; exact h2 i j hi hj e
def inv (p : List Nat) : List Nat := tab p.length (ix p)
theorem inv_len (p : List Nat) : (inv p).length = p.length := tab_len _ _
theorem g_inv {p : List Nat} {i : Nat} (h : i < p.length) : g (inv p) i = ix p i := g_tab h
theorem isP_inv {p : List Nat} (hp : IsP p) : IsP (inv p) := isP_tab (fun i hi => ix_lt hp hi) (fun i j hi hj e => by rw [← g_ix hp hi, ← g_ix hp hj, e])
def thn (p q : List Nat) : List Nat := tab p.length (fun i => g q (g p i))
theorem thn_len (p q : List Nat) : (thn p q).length = p.length := tab_len _ _
theorem g_thn {p q : List Nat} {i : Nat} (h : i < p.length) : g (thn p q) i = g q (g p i) := g_tab h
theorem isP_thn {p q : List Nat} (hp : IsP p) (hq : IsP q) (hl : p.length = q.length) : IsP (thn p q) :=
  isP_tab (fun i hi => by have h1 := g_lt hp hi; have h2 := g_lt hq (i := g p i) (by omega); omega)
    (fun i j hi hj e => g_inj hp hi hj (g_inj hq (by have := g_lt hp hi; omega) (by have := g_lt hp hj; omega) e))
def ren (p names : List Nat) : List Nat := tab p.length (fun j => g names (g p (ix names j)))
theorem ren_len (p names : List Nat) : (ren p names).length = p.length := tab_len _ _
theorem g_ren {p names : List Nat} {j : Nat} (h : j < p.length) : g (ren p names) j = g names (g p (ix names j)) := g_tab h
theorem isP_ren {p names : List Nat} (hp : IsP p) (hn : IsP names) (hl : p.length = names.length) : IsP (ren p names) := by
  refine isP_tab (fun i hi => ?_) (fun i j hi hj e => ?_)
  · have h1 := ix_lt hn (x := i) (by omega)
    have h2 := g_lt hp (i := ix names i) (by omega)
    have h3 := g_lt hn (i := g p (ix names i)) (by omega)
    omega
  · have h1 := ix_lt hn (x := i) (by omega)
    have h2 := ix_lt hn (x := j) (by omega)
    have h3 := g_lt hp (i := ix names i) (by omega)
    have h4 := g_lt hp (i := ix names j) (by omega)
    have h5 := g_inj hn (by omega) (by omega) e
    have h6 := g_inj hp (by omega) (by omega) h5
    have h7 := g_ix hn (x := i) (by omega)
    have h8 := g_ix hn (x := j) (by omega)
    rw [← h7, ← h8, h6]
end Go.Proofs.Ytoijcallajegfaa.M
end
section
/- Plain mathematics: permutations of whole numbers, and what is reached by two of them. No conditions. -/
namespace Go.Proofs.Ytoijcallajegfaa.M
set_option linter.unusedVariables false
set_option linter.unusedSimpArgs false
open Go.RowKit Go.Proofs.YtoijcallajegfaaW.PrintWords Go.Proofs.YtoijcallajegfaaW.PrintLast Go.Proofs.YtoijcallajegfaaW.PrintMore
theorem w64 {x : Int} (h0 : -9223372036854775808 ≤ x) (h1 : x ≤ 9223372036854775807) : wrap64 x = x := by unfold wrap64; omega
theorem w64s (i : Nat) (h : i ≤ 9000000000000000000) : wrap64 ((i : Int) + 1) = ((i + 1 : Nat) : Int) := by rw [w64 (by omega) (by omega)]; omega
theorem ev_succ {α : Type} {f : Nat → Option α} {r : α} (h : Ev (fun k => f (k + 1)) r) : Ev f r := Ev.step (fun _ => rfl) h
theorem rdI (p : List Nat) (i : Nat) : rd (I p) (i : Int) = ((g p i : Nat) : Int) := by
  unfold rd g I
  simp only [Int.toNat_natCast, List.getD_eq_getElem?_getD, List.getElem?_map]
  cases p[i]? <;> rfl
theorem rd_get (l : List Int) (i : Nat) (h : i < l.length) : rd l (i : Int) = l[i] := by
  unfold rd
  simp [List.getD_eq_getElem?_getD, h]
theorem mem_I {p : List Nat} {x : Nat} : (x : Int) ∈ I p ↔ x ∈ p := by
  unfold I
  constructor
  · intro h
    obtain ⟨y, hy, e⟩ := List.mem_map.mp h
    have : y = x := Int.ofNat.inj e
    exact this ▸ hy
  · intro h
    exact List.mem_map.mpr ⟨x, h, rfl⟩
def PI (l : List Int) : Prop := l.length ≤ 24 ∧ (∀ x ∈ l, 0 ≤ x ∧ x < (l.length : Int)) ∧ l.Nodup
instance : DecidablePred PI := fun l => by unfold PI; infer_instance
def permB (l : List Int) : Bool := decide (PI l)
def N (l : List Int) : List Nat := l.map Int.toNat
theorem N_I (p : List Nat) : N (I p) = p := by
  unfold N I
  rw [List.map_map]
  exact List.map_id'' (fun x => rfl) p
theorem N_len (l : List Int) : (N l).length = l.length := by simp [N]
theorem I_N {l : List Int} (h : ∀ x ∈ l, 0 ≤ x) : I (N l) = l := by
  unfold N I
  rw [List.map_map]
  conv => rhs; rw [← List.map_id l]
  apply List.map_congr_left
  intro x hx
  have := h x hx
  simp only [Function.comp, id]
  show ((x.toNat : Nat) : Int) = x
  omega
theorem PI_nat {l : List Int} (h : PI l) : ∃ p, l = I p ∧ IsP p ∧ p.length ≤ 24 := by
  obtain ⟨h1, h2, h3⟩ := h
  refine ⟨N l, (I_N (fun x hx => (h2 x hx).1)).symm, ?_, by rw [N_len]; exact h1⟩
  have e := I_N (fun x hx => (h2 x hx).1)
  refine ⟨fun x hx => ?_, ?_⟩
  · have := (h2 (x : Int) (by rw [← e]; exact mem_I.mpr hx)).2
    rw [N_len]
    omega
  · rw [← e] at h3
    unfold I at h3
    exact (List.pairwise_map.mp h3).imp (fun {a b} hab hh => hab (by rw [hh]))
theorem PI_I {p : List Nat} : PI (I p) ↔ IsP p ∧ p.length ≤ 24 := by
  constructor
  · intro h
    obtain ⟨q, e, h1, h2⟩ := PI_nat h
    have := I_inj e
    subst this
    exact ⟨h1, h2⟩
  · intro ⟨h1, h2⟩
    refine ⟨by rw [I_len]; exact h2, fun x hx => ?_, ?_⟩
    · unfold I at hx
      obtain ⟨y, hy, rfl⟩ := List.mem_map.mp hx
      have := h1.lt y hy
      rw [I_len]
      exact ⟨Int.natCast_nonneg y, Int.ofNat_lt.mpr this⟩
    · unfold I
      exact List.pairwise_map.mpr (h1.nd.imp (fun {a b} hab hh => hab (Int.ofNat.inj hh)))
theorem permB_I {p : List Nat} : permB (I p) = true ↔ IsP p ∧ p.length ≤ 24 := by
  unfold permB
  rw [decide_eq_true_iff]
  exact PI_I
def okFrom (l : List Int) (i : Nat) : Prop := ∀ j : Nat, i ≤ j → j < l.length → 0 ≤ rd l (j : Int) ∧ rd l (j : Int) < (l.length : Int) ∧ rd l (j : Int) ∉ l.take j
theorem okFrom_end (l : List Int) (i : Nat) (h : l.length ≤ i) : okFrom l i := fun j h1 h2 => by omega
theorem okFrom_step {l : List Int} {i : Nat} (h : 0 ≤ rd l (i : Int) ∧ rd l (i : Int) < (l.length : Int) ∧ rd l (i : Int) ∉ l.take i) : okFrom l i ↔ okFrom l (i + 1) := by
  constructor
  · intro k j h1 h2
    exact k j (by omega) h2
  · intro k j h1 h2
    by_cases e : j = i
    · subst e
      exact h
    · exact k j (by omega) h2
theorem okFrom_not {l : List Int} {i : Nat} (hi : i < l.length) (h : ¬ (0 ≤ rd l (i : Int) ∧ rd l (i : Int) < (l.length : Int) ∧ rd l (i : Int) ∉ l.take i)) : ¬ okFrom l i := fun k => h (k i (Nat.le_refl _) hi)
theorem okFrom_PI {l : List Int} (h : l.length ≤ 24) : okFrom l 0 ↔ PI l := by
  constructor
  · intro k
    refine ⟨h, fun x hx => ?_, ?_⟩
    · obtain ⟨i, hi, rfl⟩ := List.mem_iff_getElem.mp hx
      have := k i (Nat.zero_le _) hi
      rw [rd_get l i hi] at this
      exact ⟨this.1, this.2.1⟩
    · refine List.pairwise_iff_getElem.mpr ?_
      intro i j hi hj hij e
      have := (k j (Nat.zero_le _) hj).2.2
      rw [rd_get l j hj, ← e] at this
      exact this (List.mem_take_iff_getElem.mpr ⟨i, by omega, rfl⟩)
  · intro ⟨_, h2, h3⟩ j _ hj
    rw [rd_get l j hj]
    refine ⟨(h2 _ (List.getElem_mem hj)).1, (h2 _ (List.getElem_mem hj)).2, fun hm => ?_⟩
    obtain ⟨i, hi, e⟩ := List.mem_take_iff_getElem.mp hm
    exact List.pairwise_iff_getElem.mp h3 i j (by omega) hj (by omega) e
theorem permB_of {l : List Int} {b : Bool} (h : l.length ≤ 24) (hb : b = true ↔ okFrom l 0) : b = permB l := by
  rw [Bool.eq_iff_iff, hb, okFrom_PI h]
  unfold permB
  rw [decide_eq_true_iff]
theorem take_succ (l : List Int) (i : Nat) (h : i < l.length) : l.take (i + 1) = l.take i ++ [rd l (i : Int)] := by
  rw [rd_get l i h, List.take_append_getElem h]
def st1 (out : List Nat) (x : Nat) : List Nat := if x ∈ out then out else out ++ [x]
def bfs (p q : List Nat) : Nat → Nat → List Nat → List Nat
  | 0, _, out => out
  | f + 1, a, out => if a < out.length then bfs p q f (a + 1) (st1 (st1 out (g p (g out a))) (g q (g out a))) else out
def reach (p q : List Nat) (s : Nat) : List Nat := bfs p q (p.length + 1) 0 [s]
structure RInv (n : Nat) (out : List Nat) : Prop where
  nd : out.Nodup
  lt : ∀ x ∈ out, x < n
theorem RInv.le {n : Nat} {out : List Nat} (h : RInv n out) : out.length ≤ n := nodup_le n out h.nd h.lt
theorem RInv.st {n : Nat} {out : List Nat} {x : Nat} (h : RInv n out) (hx : x < n) : RInv n (st1 out x) := by
  unfold st1
  split
  · exact h
  · rename_i hn
    refine ⟨List.nodup_append.mpr ⟨h.nd, by simp, fun a ha b hb e => ?_⟩, fun y hy => ?_⟩
    · have : b = x := by simpa using hb
      subst this
      exact hn (e ▸ ha)
    · rcases List.mem_append.mp hy with hy | hy
      · exact h.lt y hy
      · have : y = x := by simpa using hy
        omega
theorem st1_len (out : List Nat) (x : Nat) : out.length ≤ (st1 out x).length := by
  unfold st1
  split <;> simp
theorem RInv.g {n : Nat} {out : List Nat} {a : Nat} (h : RInv n out) (ha : a < out.length) : M.g out a < n := h.lt _ (g_mem ha)
structure Sf (r u : List Nat) : Prop where
  pr : IsP r
  pu : IsP u
  le : r.length ≤ 24
  eq : u.length = r.length
  pos : 0 < r.length
  all : (reach r u 0).length = r.length
def surfB (r u : List Int) : Bool := permB r && permB u && decide (r.length = u.length) && decide (0 < r.length) && ((reach (N r) (N u) 0).length == r.length)
theorem surf_nat {r u : List Int} (h : surfB r u = true) : ∃ r' u', r = I r' ∧ u = I u' ∧ Sf r' u' := by
  unfold surfB at h
  simp only [Bool.and_eq_true, decide_eq_true_eq, beq_iff_eq] at h
  obtain ⟨⟨⟨⟨h1, h2⟩, h3⟩, h4⟩, h5⟩ := h
  obtain ⟨r', rfl, a1, a2⟩ := PI_nat (of_decide_eq_true h1)
  obtain ⟨u', rfl, b1, b2⟩ := PI_nat (of_decide_eq_true h2)
  rw [N_I, N_I, I_len] at h5
  rw [I_len, I_len] at h3
  rw [I_len] at h4
  exact ⟨r', u', rfl, rfl, a1, b1, a2, h3.symm, h4, h5⟩
theorem surfB_I {r u : List Nat} : surfB (I r) (I u) = true ↔ Sf r u := by
  constructor
  · intro h
    obtain ⟨r', u', e1, e2, hs⟩ := surf_nat h
    have := I_inj e1
    have := I_inj e2
    subst_vars
    exact hs
  · intro h
    unfold surfB
    simp only [Bool.and_eq_true, decide_eq_true_eq, beq_iff_eq]
    rw [N_I, N_I, I_len, I_len]
    exact ⟨⟨⟨⟨permB_I.mpr ⟨h.pr, h.le⟩, permB_I.mpr ⟨h.pu, by have := h.le; have := h.eq; omega⟩⟩, h.eq.symm⟩, h.pos⟩, h.all⟩
end Go.Proofs.Ytoijcallajegfaa.M
end
section
/- Plain mathematics: going round a permutation. No conditions. -/
namespace Go.Proofs.Ytoijcallajegfaa.M
set_option linter.unusedVariables false
set_option linter.unusedSimpArgs false
def itr (p : List Nat) : Nat → Nat → Nat
  | 0, s => s
  | m + 1, s => g p (itr p m s)
theorem itr_lt {p : List Nat} (hp : IsP p) (m : Nat) {s : Nat} (hs : s < p.length) : itr p m s < p.length := by
  induction m with
  | zero => exact hs
  | succ m ih => exact g_lt hp ih
theorem itr_add (p : List Nat) (a b s : Nat) : itr p (a + b) s = itr p a (itr p b s) := by
  induction a with
  | zero => simp [itr]
  | succ a ih =>
    have e : a + 1 + b = (a + b) + 1 := by omega
    rw [e, itr, itr, ih]
theorem itr_back {p : List Nat} (hp : IsP p) {s : Nat} (hs : s < p.length) (i d : Nat) (h : itr p (i + d) s = itr p i s) : itr p d s = s := by
  induction i with
  | zero =>
    have e : 0 + d = d := by omega
    rw [e] at h
    exact h
  | succ i ih =>
    have e : i + 1 + d = (i + d) + 1 := by omega
    rw [e] at h
    exact ih (g_inj hp (itr_lt hp _ hs) (itr_lt hp _ hs) h)
theorem period {p : List Nat} (hp : IsP p) {s : Nat} (hs : s < p.length) : ∃ m, 1 ≤ m ∧ m ≤ p.length ∧ itr p m s = s := by
  apply Classical.byContradiction
  intro hn
  have hd : ((List.range (p.length + 1)).map (fun m => itr p m s)).Nodup := by
    refine List.pairwise_map.mpr ?_
    refine List.pairwise_iff_getElem.mpr ?_
    intro i j hi hj hij
    rw [List.length_range] at hi hj
    rw [List.getElem_range, List.getElem_range]
    intro e
    have : itr p (j - i) s = s := itr_back hp hs i (j - i) (by
      have e2 : i + (j - i) = j := by omega
      rw [e2]
      exact e.symm)
    exact hn ⟨j - i, by omega, by omega, this⟩
  have := nodup_le p.length _ hd (fun x hx => by
    obtain ⟨m, _, rfl⟩ := List.mem_map.mp hx
    exact itr_lt hp m hs)
  simp at this
  omega
def per (p : List Nat) (s : Nat) : Nat := (((List.range p.length).find? (fun m => itr p (m + 1) s == s)).getD 0) + 1
theorem per_spec {p : List Nat} (hp : IsP p) {s : Nat} (hs : s < p.length) : itr p (per p s) s = s ∧ per p s ≤ p.length ∧ ∀ m, 1 ≤ m → m < per p s → itr p m s ≠ s := by
  obtain ⟨m, m1, m2, m3⟩ := period hp hs
  unfold per
  cases h : (List.range p.length).find? (fun m => itr p (m + 1) s == s) with
  | none =>
    have := List.find?_eq_none.mp h (m - 1) (List.mem_range.mpr (by omega))
    have e : m - 1 + 1 = m := by omega
    rw [e, m3] at this
    simp at this
  | some a =>
    simp only [Option.getD_some]
    have h1 := List.find?_some h
    have h2 := List.mem_of_find?_eq_some h
    rw [List.mem_range] at h2
    refine ⟨by simpa using h1, by omega, fun m hm1 hm2 e => ?_⟩
    obtain ⟨_, as1, bs1, hb, hn⟩ := List.find?_eq_some_iff_append.mp h
    have hm : m - 1 ∈ as1 := by
      have hl : as1.length = a := by
        have e1 : (List.range p.length)[as1.length]? = some a := by rw [hb]; simp
        have := List.getElem?_eq_some_iff.mp e1
        obtain ⟨_, e2⟩ := this
        rw [List.getElem_range] at e2
        exact e2
      have e1 : (List.range p.length)[m - 1]? = some (m - 1) := by
        rw [List.getElem?_range]
        omega
      rw [hb, List.getElem?_append_left (by omega)] at e1
      exact List.mem_of_getElem? e1
    have := hn _ hm
    have e3 : m - 1 + 1 = m := by omega
    rw [e3, e] at this
    simp at this
theorem per_pos (p : List Nat) (s : Nat) : 1 ≤ per p s := by unfold per; omega
def orbTo (p : List Nat) (s m : Nat) : List Nat := (List.range m).map (fun k => itr p k s)
def orb (p : List Nat) (s : Nat) : List Nat := orbTo p s (per p s)
theorem mem_orbTo {p : List Nat} {s m x : Nat} : x ∈ orbTo p s m ↔ ∃ k, k < m ∧ itr p k s = x := by
  unfold orbTo
  simp
theorem orbTo_snoc (p : List Nat) (s m : Nat) : orbTo p s m ++ [itr p m s] = orbTo p s (m + 1) := by
  unfold orbTo
  rw [List.range_succ]
  simp
theorem orb_close {p : List Nat} (hp : IsP p) {s m : Nat} (hs : s < p.length) (hm : m < per p s) (h1 : 1 ≤ m) : itr p m s ∉ orbTo p s m := by
  intro h
  obtain ⟨k, hk, e⟩ := mem_orbTo.mp h
  have : itr p (m - k) s = s := itr_back hp hs k (m - k) (by
    have e2 : k + (m - k) = m := by omega
    rw [e2]
    exact e.symm)
  exact (per_spec hp hs).2.2 (m - k) (by omega) (by omega) this
theorem mem_orb {p : List Nat} (hp : IsP p) {s : Nat} (hs : s < p.length) {x : Nat} : x ∈ orb p s ↔ ∃ k, itr p k s = x := by
  constructor
  · intro h
    obtain ⟨k, _, e⟩ := mem_orbTo.mp h
    exact ⟨k, e⟩
  · intro ⟨k, e⟩
    have hper := per_spec hp hs
    have hpos := per_pos p s
    have hmod : ∀ k, itr p (k % per p s) s = itr p k s := by
      intro k
      have e1 : k % per p s + per p s * (k / per p s) = k := Nat.mod_add_div k (per p s)
      have hz : ∀ j, itr p (per p s * j) s = s := by
        intro j
        induction j with
        | zero => rfl
        | succ j ih =>
          have : per p s * (j + 1) = per p s * j + per p s := by rw [Nat.mul_add, Nat.mul_one]
          rw [this, itr_add, hper.1, ih]
      conv => rhs; rw [← e1]
      rw [itr_add, hz]
    exact mem_orbTo.mpr ⟨k % per p s, Nat.mod_lt _ (by omega), by rw [hmod, e]⟩
theorem orb_self {p : List Nat} (hp : IsP p) {s : Nat} (hs : s < p.length) : s ∈ orb p s := (mem_orb hp hs).mpr ⟨0, rfl⟩
theorem orb_lt {p : List Nat} (hp : IsP p) {s : Nat} (hs : s < p.length) {x : Nat} (h : x ∈ orb p s) : x < p.length := by
  obtain ⟨k, rfl⟩ := (mem_orb hp hs).mp h
  exact itr_lt hp k hs
theorem orb_sym {p : List Nat} (hp : IsP p) {s : Nat} (hs : s < p.length) {x : Nat} (h : x ∈ orb p s) : s ∈ orb p x := by
  obtain ⟨k, hk, e⟩ := mem_orbTo.mp h
  have hx := orb_lt hp hs h
  refine (mem_orb hp hx).mpr ⟨per p s - k, ?_⟩
  rw [← e, ← itr_add]
  have : per p s - k + k = per p s := by omega
  rw [this]
  exact (per_spec hp hs).1
theorem orb_trans {p : List Nat} (hp : IsP p) {s : Nat} (hs : s < p.length) {x y : Nat} (h : x ∈ orb p s) (k : y ∈ orb p x) : y ∈ orb p s := by
  have hx := orb_lt hp hs h
  obtain ⟨a, rfl⟩ := (mem_orb hp hs).mp h
  obtain ⟨b, rfl⟩ := (mem_orb hp hx).mp k
  exact (mem_orb hp hs).mpr ⟨b + a, itr_add p b a s⟩
def cyc (p : List Nat) : Nat → List (List Nat)
  | 0 => []
  | i + 1 => if ∃ c ∈ cyc p i, i ∈ c then cyc p i else cyc p i ++ [orb p i]
def cycles (p : List Nat) : List (List Nat) := cyc p p.length
theorem cyc_form (p : List Nat) (i : Nat) : ∀ c ∈ cyc p i, ∃ s, s < i ∧ c = orb p s := by
  induction i with
  | zero => intro c h; simp [cyc] at h
  | succ i ih =>
    intro c h
    unfold cyc at h
    split at h
    · obtain ⟨s, h1, h2⟩ := ih c h
      exact ⟨s, by omega, h2⟩
    · rcases List.mem_append.mp h with h | h
      · obtain ⟨s, h1, h2⟩ := ih c h
        exact ⟨s, by omega, h2⟩
      · exact ⟨i, by omega, by simpa using h⟩
theorem orb_meet {p : List Nat} (hp : IsP p) {s t x : Nat} (hs : s < p.length) (ht : t < p.length) (h1 : x ∈ orb p s) (h2 : x ∈ orb p t) : t ∈ orb p s :=
  orb_trans hp hs h1 (orb_sym hp ht h2)
theorem cyc_new {p : List Nat} (hp : IsP p) {i : Nat} (hi : i < p.length) (h : ¬ ∃ c ∈ cyc p i, i ∈ c) {x : Nat} (hx : x ∈ orb p i) : ¬ ∃ c ∈ cyc p i, x ∈ c := by
  intro ⟨c, hc, hm⟩
  obtain ⟨s, hs, rfl⟩ := cyc_form p i c hc
  exact h ⟨_, hc, orb_meet hp (by omega) hi hm hx⟩
end Go.Proofs.Ytoijcallajegfaa.M
end
section
/- Plain mathematics: surfaces, and what the four letters make of them. No conditions. -/
namespace Go.Proofs.Ytoijcallajegfaa.M
set_option linter.unusedVariables false
set_option linter.unusedSimpArgs false
theorem st1_mem {out : List Nat} {x y : Nat} : y ∈ st1 out x ↔ y ∈ out ∨ y = x := by
  unfold st1
  split
  · rename_i h
    constructor
    · exact Or.inl
    · rintro (h' | rfl)
      · exact h'
      · exact h
  · simp
theorem st1_g {out : List Nat} {x i : Nat} (h : i < out.length) : g (st1 out x) i = g out i := by
  unfold st1
  split
  · rfl
  · unfold g
    rw [List.getD_eq_getElem?_getD, List.getD_eq_getElem?_getD, List.getElem?_append_left h]
theorem st1_le (out : List Nat) (x : Nat) : out.length ≤ (st1 out x).length := by
  unfold st1
  split
  · exact Nat.le_refl _
  · simp
theorem bfs_ind {r u : List Nat} {n : Nat} (S : Nat → Prop) (h1 : ∀ x, x < n → S x → S (g r x) ∧ g r x < n) (h2 : ∀ x, x < n → S x → S (g u x) ∧ g u x < n) : ∀ (F a : Nat) (out : List Nat), (∀ x ∈ out, S x ∧ x < n) → ∀ x ∈ bfs r u F a out, S x ∧ x < n := by
  intro F
  induction F with
  | zero => intro a out h; exact h
  | succ F ih =>
    intro a out h
    unfold bfs
    split
    · rename_i ha
      obtain ⟨s, l⟩ := h _ (g_mem ha)
      refine ih _ _ (fun x hx => ?_)
      rcases st1_mem.mp hx with hx | rfl
      · rcases st1_mem.mp hx with hx | rfl
        · exact h x hx
        · exact h1 _ l s
      · exact h2 _ l s
    · exact h
theorem bfs_sub {r u : List Nat} : ∀ (F a : Nat) (out : List Nat), ∀ x ∈ out, x ∈ bfs r u F a out := by
  intro F
  induction F with
  | zero => intro a out x h; exact h
  | succ F ih =>
    intro a out x h
    unfold bfs
    split
    · exact ih _ _ x (st1_mem.mpr (.inl (st1_mem.mpr (.inl h))))
    · exact h
theorem bfs_rinv {r u : List Nat} {n : Nat} (h1 : ∀ x, x < n → g r x < n) (h2 : ∀ x, x < n → g u x < n) : ∀ (F a : Nat) (out : List Nat), RInv n out → RInv n (bfs r u F a out) := by
  intro F
  induction F with
  | zero => intro a out h; exact h
  | succ F ih =>
    intro a out h
    unfold bfs
    split
    · rename_i ha
      have hx := h.g ha
      exact ih _ _ ((h.st (h1 _ hx)).st (h2 _ hx))
    · exact h
theorem bfs_shut {r u : List Nat} {n : Nat} (h1 : ∀ x, x < n → g r x < n) (h2 : ∀ x, x < n → g u x < n) : ∀ (F a : Nat) (out : List Nat), RInv n out → a ≤ out.length → n < F + a → (∀ i, i < a → g r (g out i) ∈ out ∧ g u (g out i) ∈ out) → ∀ x ∈ bfs r u F a out, g r x ∈ bfs r u F a out ∧ g u x ∈ bfs r u F a out := by
  intro F
  induction F with
  | zero =>
    intro a out h ha hF
    have := h.le
    omega
  | succ F ih =>
    intro a out h ha hF hc
    unfold bfs
    split
    · rename_i ha'
      have hx := h.g ha'
      have r1 := h.st (h1 _ hx)
      have l1 := st1_le out (g r (g out a))
      have l2 := st1_le (st1 out (g r (g out a))) (g u (g out a))
      refine ih _ _ (r1.st (h2 _ hx)) (by omega) (by omega) (fun i hi => ?_)
      have e : g (st1 (st1 out (g r (g out a))) (g u (g out a))) i = g out i := by
        rw [st1_g (by omega), st1_g (by omega)]
      rw [e]
      by_cases hia : i < a
      · exact ⟨st1_mem.mpr (.inl (st1_mem.mpr (.inl (hc i hia).1))), st1_mem.mpr (.inl (st1_mem.mpr (.inl (hc i hia).2)))⟩
      · obtain rfl : i = a := by omega
        exact ⟨st1_mem.mpr (.inl (st1_mem.mpr (.inr rfl))), st1_mem.mpr (.inr rfl)⟩
    · intro x hx
      obtain ⟨i, hi, rfl⟩ := mem_g hx
      exact hc i (by omega)
theorem nodup_sub_len5 : ∀ (a b : List Nat), a.Nodup → (∀ x ∈ a, x ∈ b) → a.length ≤ b.length := by
  intro a
  induction a with
  | nil => intro b _ _; simp
  | cons x a ih =>
    intro b hn h
    obtain ⟨h1, h2⟩ := List.nodup_cons.mp hn
    have hx : x ∈ b := h x (by simp)
    have := ih (b.erase x) h2 (fun y hy => (List.mem_erase_of_ne (fun e => h1 (by rw [← e]; exact hy))).mpr (h y (by simp [hy])))
    rw [List.length_erase_of_mem hx] at this
    have hp := List.length_pos_of_mem hx
    simp
    omega
def Tr (r u : List Nat) : Prop := ∀ S : Nat → Prop, S 0 → (∀ x, x < r.length → S x → S (g r x)) → (∀ x, x < r.length → S x → S (g u x)) → ∀ x, x < r.length → S x
theorem sf_of_tr {r u : List Nat} (pr : IsP r) (pu : IsP u) (le : r.length ≤ 24) (eq : u.length = r.length) (pos : 0 < r.length) (h : Tr r u) : Sf r u := by
  have b1 : ∀ x, x < r.length → g r x < r.length := fun x hx => g_lt pr hx
  have b2 : ∀ x, x < r.length → g u x < r.length := fun x hx => by have := g_lt pu (i := x) (by omega); omega
  have hri : RInv r.length (reach r u 0) := bfs_rinv b1 b2 _ _ _ ⟨by simp, by simpa using pos⟩
  have hsh := bfs_shut b1 b2 (r.length + 1) 0 [0] ⟨by simp, by simpa using pos⟩ (by simp) (by omega) (fun i hi => by omega)
  have hall : ∀ x, x < r.length → x ∈ reach r u 0 := h (fun x => x ∈ reach r u 0) (bfs_sub _ _ _ 0 (by simp)) (fun x _ hx => (hsh x hx).1) (fun x _ hx => (hsh x hx).2)
  refine ⟨pr, pu, le, eq, pos, ?_⟩
  have l1 := hri.le
  have l2 := nodup_sub_len5 (List.range r.length) (reach r u 0) List.nodup_range (fun x hx => hall x (List.mem_range.mp hx))
  rw [List.length_range] at l2
  omega
theorem Sf.tr {r u : List Nat} (hs : Sf r u) : Tr r u := by
  intro S s0 h1 h2 x hx
  have b1 : ∀ x, x < r.length → g r x < r.length := fun x hx => g_lt hs.pr hx
  have b2 : ∀ x, x < r.length → g u x < r.length := fun x hx => by have := g_lt hs.pu (i := x) (by rw [hs.eq]; exact hx); rw [hs.eq] at this; exact this
  have hri : RInv r.length (reach r u 0) := bfs_rinv b1 b2 _ _ _ ⟨by simp, by simpa using hs.pos⟩
  have hp : IsP (reach r u 0) := ⟨fun x hx => by rw [hs.all]; exact hri.lt x hx, hri.nd⟩
  have hm := mem_all hp (x := x) (by rw [hs.all]; exact hx)
  have h0 : ∀ y ∈ [0], S y ∧ y < r.length := by
    intro y hy
    obtain rfl : y = 0 := by simpa using hy
    exact ⟨s0, hs.pos⟩
  exact (bfs_ind S (fun x hx h => ⟨h1 x hx h, b1 x hx⟩) (fun x hx h => ⟨h2 x hx h, b2 x hx⟩) _ _ [0] h0 x hm).1
theorem closed_back {p : List Nat} (hp : IsP p) {S : Nat → Prop} (hS : ∀ x, x < p.length → S x → S (g p x)) {x : Nat} (hx : x < p.length) (h : S (g p x)) : S x := by
  obtain ⟨m, h1, _, h3⟩ := period hp hx
  have H : ∀ k, S (itr p k (g p x)) := by
    intro k
    induction k with
    | zero => exact h
    | succ k ih => exact hS _ (itr_lt hp k (g_lt hp hx)) ih
  have e : itr p (m - 1) (g p x) = itr p m x := by
    have := itr_add p (m - 1) 1 x
    rw [show m - 1 + 1 = m by omega] at this
    exact this.symm
  have := H (m - 1)
  rw [e, h3] at this
  exact this
theorem reach_full {r u : List Nat} (hs : Sf r u) {s : Nat} (hb : s < r.length) : RInv r.length (reach r u s) ∧ ∀ x, x < r.length → x ∈ reach r u s := by
  have b1 : ∀ x, x < r.length → g r x < r.length := fun x hx => g_lt hs.pr hx
  have b2 : ∀ x, x < r.length → g u x < r.length := fun x hx => by have := g_lt hs.pu (i := x) (by rw [hs.eq]; exact hx); rw [hs.eq] at this; exact this
  have h0 : RInv r.length [s] := ⟨by simp, by simpa using hb⟩
  have hsh := bfs_shut b1 b2 (r.length + 1) 0 [s] h0 (by simp) (by omega) (fun i hi => by omega)
  have hmem : s ∈ reach r u s := bfs_sub _ _ _ s (by simp)
  refine ⟨bfs_rinv b1 b2 _ _ _ h0, ?_⟩
  have z : (0 : Nat) ∈ reach r u s := by
    apply Classical.byContradiction
    intro hz
    refine hs.tr (fun x => x ∉ reach r u s) hz (fun x hx hn hm => ?_) (fun x hx hn hm => ?_) s hb hmem
    · exact hn (closed_back hs.pr (S := fun x => x ∈ reach r u s) (fun y _ hy => (hsh y hy).1) hx hm)
    · exact hn (closed_back hs.pu (S := fun x => x ∈ reach r u s) (fun y _ hy => (hsh y hy).2) (by rw [hs.eq]; exact hx) hm)
  exact hs.tr (fun x => x ∈ reach r u s) z (fun x _ hx => (hsh x hx).1) (fun x _ hx => (hsh x hx).2)
theorem sf_T {r u : List Nat} (hs : Sf r u) : Sf r (thn (inv r) u) := by
  have h1 : (inv r).length = u.length := by rw [inv_len, hs.eq]
  refine sf_of_tr hs.pr (isP_thn (isP_inv hs.pr) hs.pu h1) hs.le (by rw [thn_len, inv_len]) hs.pos (fun S s0 k1 k2 => hs.tr S s0 k1 (fun x hx hsx => ?_))
  have := k2 (g r x) (g_lt hs.pr hx) (k1 x hx hsx)
  rw [g_thn (by rw [inv_len]; exact g_lt hs.pr hx), g_inv (g_lt hs.pr hx), ix_g hs.pr hx] at this
  exact this
theorem sf_t {r u : List Nat} (hs : Sf r u) : Sf r (thn r u) := by
  have h1 : r.length = u.length := hs.eq.symm
  refine sf_of_tr hs.pr (isP_thn hs.pr hs.pu h1) hs.le (by rw [thn_len]) hs.pos (fun S s0 k1 k2 => hs.tr S s0 k1 (fun y hy hsy => ?_))
  have hx : ix r y < r.length := ix_lt hs.pr hy
  have e : g r (ix r y) = y := g_ix hs.pr hy
  have hsx : S (ix r y) := closed_back hs.pr (S := S) k1 hx (by rw [e]; exact hsy)
  have := k2 _ hx hsx
  rw [g_thn hx, e] at this
  exact this
theorem sf_S {r u : List Nat} (hs : Sf r u) : Sf (inv u) r := by
  have hl : (inv u).length = r.length := by rw [inv_len, hs.eq]
  refine sf_of_tr (isP_inv hs.pu) hs.pr (by rw [hl]; exact hs.le) hl.symm (by rw [hl]; exact hs.pos) (fun S s0 k1 k2 => ?_)
  rw [hl] at k1 k2 ⊢
  refine hs.tr S s0 k2 (fun x hx hsx => ?_)
  have hx' : g u x < u.length := g_lt hs.pu (by rw [hs.eq]; exact hx)
  refine closed_back (isP_inv hs.pu) (S := S) (fun y hy => k1 y (by rw [← hl]; exact hy)) (x := g u x) (by rw [inv_len]; exact hx') ?_
  rw [g_inv hx', ix_g hs.pu (by rw [hs.eq]; exact hx)]
  exact hsx
theorem sf_s {r u : List Nat} (hs : Sf r u) : Sf u (inv r) := by
  refine sf_of_tr hs.pu (isP_inv hs.pr) (by rw [hs.eq]; exact hs.le) (by rw [inv_len, hs.eq]) (by rw [hs.eq]; exact hs.pos) (fun S s0 k1 k2 => ?_)
  rw [hs.eq] at k1 k2 ⊢
  refine hs.tr S s0 (fun x hx hsx => ?_) k1
  have hx' : g r x < r.length := g_lt hs.pr hx
  refine closed_back (isP_inv hs.pr) (S := S) (fun y hy => k2 y (by rw [inv_len] at hy; exact hy)) (x := g r x) (by rw [inv_len]; exact hx') ?_
  rw [g_inv hx', ix_g hs.pr hx]
  exact hsx
end Go.Proofs.Ytoijcallajegfaa.M
end
section
/- The tests of permutations, program and reference, come to one plain test. No conditions. -/
namespace Go.Proofs.Ytoijcallajegfaa.M
set_option linter.unusedVariables false
set_option linter.unusedSimpArgs false
open Go.RowKit Go.Proofs.YtoijcallajegfaaW.PrintWords Go.Proofs.YtoijcallajegfaaW.PrintLast Go.Proofs.YtoijcallajegfaaW.PrintMore Go.Proofs.Ytoijcallajegfaa.A
theorem rdOf_nat (s : List Bool) (x : Nat) : rdOf false s (x : Int) = s.getD x false := rfl
theorem getD_set (s : List Bool) (x y : Nat) (h : x < s.length) : (s.set x true).getD y false = if x = y then true else s.getD y false := by
  rw [List.getD_eq_getElem?_getD, List.getD_eq_getElem?_getD, List.getElem?_set]
  by_cases e : x = y
  · subst e
    simp [h]
  · simp [e]
theorem impl_permOk (l : List Int) : Ev (fun k => impl_PermOk.f k l) (permB l) := by
  unfold impl_PermOk.f
  by_cases h24 : (l.length : Int) > 24
  · simp only [h24, if_true]
    have : permB l = false := by
      unfold permB
      rw [decide_eq_false_iff_not]
      intro h
      have := h.1
      omega
    rw [this]
    exact Ev.now _
  · simp only [h24, if_false]
    have H : ∀ (d i : Nat) (s : List Bool), i + d = l.length → s.length = 24 → (∀ x : Nat, x < 24 → (s.getD x false = true ↔ (x : Int) ∈ l.take i)) → ∃ b, Ev (fun k => impl_PermOk.l0 k l s (i : Int)) b ∧ (b = true ↔ okFrom l i) := by
      intro d
      induction d with
      | zero =>
        intro i s h hs hx
        refine ⟨true, ev_succ ?_, by simp [okFrom_end l i (by omega)]⟩
        have h1 : ¬ ((i : Int) < (l.length : Int)) := by omega
        simp only [impl_PermOk.l0, h1, if_false]
        exact Ev.now _
      | succ d ih =>
        intro i s h hs hx
        have hi : i < l.length := by omega
        have h1 : (i : Int) < (l.length : Int) := by omega
        have h2 : (0 : Int) ≤ (i : Int) := by omega
        have h3 := w64s i (by omega)
        by_cases c1 : rd l (i : Int) < 0
        · refine ⟨false, ev_succ ?_, by simpa using okFrom_not hi (fun h => by omega)⟩
          simp only [impl_PermOk.l0, h1, h2, c1, if_true]
          exact Ev.now _
        · by_cases c2 : rd l (i : Int) ≥ (l.length : Int)
          · refine ⟨false, ev_succ ?_, by simpa using okFrom_not hi (fun h => by omega)⟩
            simp only [impl_PermOk.l0, h1, h2, c1, c2, if_true, if_false]
            exact Ev.now _
          · obtain ⟨x, ex⟩ : ∃ x : Nat, rd l (i : Int) = (x : Int) := ⟨(rd l (i : Int)).toNat, by omega⟩
            have hx24 : x < 24 := by omega
            by_cases c3 : s.getD x false = true
            · have hm := (hx x hx24).mp c3
              refine ⟨false, ev_succ ?_, by simpa using okFrom_not hi (fun h => h.2.2 (by rw [ex]; exact hm))⟩
              rw [ex] at c1 c2
              simp only [impl_PermOk.l0, h1, h2, ex, c1, c2, rdOf_nat, c3, if_true, if_false]
              exact Ev.now _
            · have hm : (x : Int) ∉ l.take i := fun h => c3 ((hx x hx24).mpr h)
              obtain ⟨b, i1, i2⟩ := ih (i + 1) (s.set x true) (by omega) (by rw [List.length_set]; exact hs) (fun y hy => by
                rw [getD_set s x y (by omega), take_succ l i hi, ex]
                by_cases e : x = y
                · subst e
                  simp
                · rw [if_neg e, hx y hy]
                  have : ¬ (y : Int) = (x : Int) := by omega
                  simp [this])
              refine ⟨b, ev_succ ?_, by rw [i2]; exact (okFrom_step ⟨by omega, by omega, by rw [ex]; exact hm⟩).symm⟩
              rw [ex] at c1 c2
              simp only [impl_PermOk.l0, h1, h2, h3, ex, c1, c2, rdOf_nat, c3, if_true, if_false, Int.toNat_natCast]
              exact i1
    obtain ⟨b, i1, i2⟩ := H l.length 0 (List.replicate 24 false) (by omega) rfl (fun x hx => by
      have : (List.replicate 24 false).getD x false = false := by
        rw [List.getD_eq_getElem?_getD, List.getElem?_replicate]
        simp [hx]
      rw [this]
      simp)
    rw [← permB_of (by omega) i2]
    exact i1
end Go.Proofs.Ytoijcallajegfaa.M
end
section
/- The tests of surfaces, program and reference, come to one plain test. No conditions. -/
namespace Go.Proofs.Ytoijcallajegfaa.M
set_option linter.unusedVariables false
set_option linter.unusedSimpArgs false
open Go.RowKit Go.Proofs.YtoijcallajegfaaW.PrintWords Go.Proofs.YtoijcallajegfaaW.PrintLast Go.Proofs.YtoijcallajegfaaW.PrintMore Go.Proofs.Ytoijcallajegfaa.A
theorem I_pair (a b : Nat) : ([(a : Int), (b : Int)] : List Int) = I [a, b] := rfl
theorem I_len' (l : List Nat) : ((I l).length : Int) = (l.length : Int) := by rw [I_len]
theorem len_ne_false {r u : List Int} (h : r.length ≠ u.length) : surfB r u = false := by
  unfold surfB
  simp [h]
theorem surfB_mk {r u : List Int} (h1 : permB r = true) (h2 : permB u = true) (h3 : r.length = u.length) (h4 : 0 < r.length) : surfB r u = ((reach (N r) (N u) 0).length == r.length) := by
  unfold surfB
  simp [h1, h2, h3, h4]
  intro _
  omega
def Marks (n : Nat) (s : List Bool) (out : List Nat) : Prop := s.length = n ∧ ∀ x, x < n → (s.getD x false = true ↔ x ∈ out)
theorem Marks.add {n : Nat} {s : List Bool} {out : List Nat} {x : Nat} (h : Marks n s out) (hx : x < n) : Marks n (s.set x true) (out ++ [x]) := by
  refine ⟨by rw [List.length_set]; exact h.1, fun y hy => ?_⟩
  rw [getD_set s x y (by rw [h.1]; exact hx)]
  by_cases e : x = y
  · subst e
    simp
  · rw [if_neg e, h.2 y hy]
    have : ¬ y = x := fun k => e k.symm
    simp [this]
theorem trans_one (p q out pr : List Nat) (s : List Bool) (a : Nat) (j : Nat) (hj : j < pr.length) (hp : pr.length ≤ 2) (hl : out.length ≤ 1000) (hm : Marks p.length s out) (hx : g pr j < p.length) (r : Bool)
    (H : ∀ s', Marks p.length s' (st1 out (g pr j)) → Ev (fun k => impl_IsTransitive.l1 k (I p) (I q) s' (I (st1 out (g pr j))) (a : Int) (I pr) (pr.length : Int) ((j + 1 : Nat) : Int)) r) :
    Ev (fun k => impl_IsTransitive.l1 k (I p) (I q) s (I out) (a : Int) (I pr) (pr.length : Int) (j : Int)) r := by
  refine ev_succ ?_
  have h1 : (j : Int) < (pr.length : Int) := by omega
  have h2 : (0 : Int) ≤ (j : Int) := by omega
  have h3 := w64s j (by omega)
  have h4 : (I out).length < 17592186044416 := by rw [I_len]; omega
  have h5 : (0 : Int) ≤ ((g pr j : Nat) : Int) := by omega
  have h6 : ((g pr j : Nat) : Int) < (s.length : Int) := by rw [hm.1]; omega
  simp only [impl_IsTransitive.l1, h1, h2, h3, h4, h5, h6, rdI, I_len', rdOf_nat, if_true, Int.toNat_natCast]
  by_cases hin : g pr j ∈ out
  · have hs := (hm.2 _ hx).mpr hin
    have e : st1 out (g pr j) = out := by unfold st1; rw [if_pos hin]
    have := H s (by rw [e]; exact hm)
    rw [e] at this
    simp only [hs, if_true]
    exact this
  · have hs : s.getD (g pr j) false = false := Bool.eq_false_iff.mpr (fun h => hin ((hm.2 _ hx).mp h))
    have e : st1 out (g pr j) = out ++ [g pr j] := by unfold st1; rw [if_neg hin]
    have := H (s.set (g pr j) true) (by rw [e]; exact hm.add hx)
    rw [e, ← I_snoc] at this
    simp only [hs, Bool.false_eq_true, if_false]
    exact this
theorem trans_loop {p q : List Nat} (hp : IsP p) (hq : IsP q) (hl : q.length = p.length) (h24 : p.length ≤ 24) (f : Nat) : ∀ (a : Nat) (out : List Nat) (s : List Bool), RInv p.length out → Marks p.length s out → a ≤ out.length → p.length < f + a →
    Ev (fun k => impl_IsTransitive.l0 k (I p) (I q) s (I out) (a : Int)) ((bfs p q f a out).length == p.length) := by
  induction f with
  | zero =>
    intro a out s hr hm ha hf
    have := hr.le
    omega
  | succ f ih =>
    intro a out s hr hm ha hf
    have hle := hr.le
    refine ev_succ ?_
    by_cases h : a < out.length
    · have h1 : (a : Int) < (out.length : Int) := by omega
      have h2 : (0 : Int) ≤ (a : Int) := by omega
      have hx := hr.g h
      have h3 : ((g out a : Nat) : Int) < (p.length : Int) := by omega
      have h4 : (0 : Int) ≤ ((g out a : Nat) : Int) := by omega
      have h5 : ((g out a : Nat) : Int) < (q.length : Int) := by omega
      have h6 := w64s a (by omega)
      simp only [impl_IsTransitive.l0, h1, h2, h3, h4, h5, rdI, I_len', if_true, Option.bind_some, I_pair]
      have hg1 := g_lt hp hx
      have hg2 : g q (g out a) < p.length := by have := g_lt hq (i := g out a) (by omega); omega
      have r1 := hr.st hg1
      have r2 := r1.st hg2
      have hb : bfs p q (f + 1) a out = bfs p q f (a + 1) (st1 (st1 out (g p (g out a))) (g q (g out a))) := by
        rw [bfs, if_pos h]
      rw [hb]
      refine trans_one p q out [g p (g out a), g q (g out a)] s a 0 (by simp) (by simp) (by omega) hm hg1 _ (fun s1 hm1 => ?_)
      refine trans_one p q _ [g p (g out a), g q (g out a)] s1 a 1 (by simp) (by simp) (by have := r1.le; simp only [g, List.getD_cons_zero] at this ⊢; omega) hm1 hg2 _ (fun s2 hm2 => ?_)
      refine ev_succ ?_
      have h7 : ¬ (((1 + 1 : Nat) : Int) < (([g p (g out a), g q (g out a)] : List Nat).length : Int)) := by simp
      simp only [impl_IsTransitive.l1, h7, h6, if_false]
      exact ih (a + 1) _ s2 r2 hm2 (Nat.le_trans (by omega : a + 1 ≤ out.length) (Nat.le_trans (st1_len _ _) (st1_len _ _))) (by omega)
    · have h1 : ¬ ((a : Int) < (out.length : Int)) := by omega
      have hb : bfs p q (f + 1) a out = out := by rw [bfs, if_neg h]
      rw [hb]
      simp only [impl_IsTransitive.l0, h1, I_len', if_false]
      have e : ((out.length : Int) == (p.length : Int)) = (out.length == p.length) := by
        rw [Bool.eq_iff_iff, beq_iff_eq, beq_iff_eq]
        omega
      rw [e]
      exact Ev.now _
theorem j0_true (r u : List Int) : Ev (fun k => impl_IsTransitive.j0 k r u true) false := by
  refine ev_succ ?_
  simp only [impl_IsTransitive.j0, if_true]
  exact Ev.now _
theorem impl_trans (r u : List Int) : Ev (fun k => impl_IsTransitive.f k r u) (surfB r u) := by
  unfold impl_IsTransitive.f
  refine Ev.bind (impl_permOk r) ?_
  by_cases h1 : permB r = true
  · simp only [h1, if_true]
    refine Ev.bind (impl_permOk u) ?_
    by_cases h2 : permB u = true
    · simp only [h2, if_true]
      by_cases h3 : (r.length : Int) = (u.length : Int)
      · have h3' : r.length = u.length := by omega
        simp only [h3, if_true]
        by_cases h4 : 0 < r.length
        · rw [surfB_mk h1 h2 h3' h4]
          obtain ⟨p, rfl, a1, a2⟩ := PI_nat (of_decide_eq_true h1)
          obtain ⟨q, rfl, b1, b2⟩ := PI_nat (of_decide_eq_true h2)
          rw [I_len, I_len] at h3'
          rw [I_len] at h4
          refine ev_succ ?_
          have e0 : ((q.length : Int) == 0) = false := by rw [beq_eq_false_iff_ne]; omega
          have e1 : (0 : Int) ≤ (p.length : Int) := by omega
          have e2 : ((p.length : Int)).toNat ≤ 281474976710656 := by omega
          have e3 : (0 : Int) < ((List.replicate p.length false).length : Int) := by rw [List.length_replicate]; omega
          simp only [impl_IsTransitive.j0, e0, I_len', e1, e2, Bool.false_eq_true, if_true, if_false, Option.bind_some, Int.toNat_natCast, e3]
          simp only [Int.toNat_natCast] at e2
          simp only [e2, if_true]
          rw [N_I, N_I, I_len]
          refine trans_loop a1 b1 h3'.symm a2 (p.length + 1) 0 [0] _ ⟨by simp, by simpa using h4⟩ ?_ (by simp) (by omega)
          refine ⟨by simp, fun x hx => ?_⟩
          have : (0 : Int).toNat = 0 := rfl
          rw [this, getD_set _ 0 x (by simp; omega)]
          by_cases e : 0 = x
          · subst e
            simp
          · rw [if_neg e]
            have h0 : ¬ x = 0 := fun h => e h.symm
            have : (List.replicate p.length false).getD x false = false := by
              rw [List.getD_eq_getElem?_getD, List.getElem?_replicate]
              simp [hx]
            rw [this]
            simp [h0]
        · have e0 : ((u.length : Int) == 0) = true := by rw [beq_iff_eq]; omega
          have : surfB r u = false := by unfold surfB; simp [h4]
          rw [this]
          simp only [e0]
          exact j0_true r u
      · simp only [h3, if_false]
        rw [len_ne_false (by omega)]
        exact j0_true r u
    · have h2' := Bool.eq_false_iff.mpr h2
      simp only [h2', Bool.false_eq_true, if_false]
      have : surfB r u = false := by unfold surfB; simp [h2']
      rw [this]
      exact j0_true r u
  · have h1' := Bool.eq_false_iff.mpr h1
    simp only [h1', Bool.false_eq_true, if_false]
    have : surfB r u = false := by unfold surfB; simp [h1']
    rw [this]
    exact j0_true r u
theorem impl_surf (r u : List Int) : Ev (fun k => impl_SurfaceOk.f k r u) (surfB r u) := by
  unfold impl_SurfaceOk.f
  exact Ev.bind (impl_trans r u) (Ev.now _)
end Go.Proofs.Ytoijcallajegfaa.M
end
section
namespace Go.Proofs.Ytoijcallajegfaa.A
open Go.RowKit Go.Proofs.YtoijcallajegfaaW.PrintWords Go.Proofs.YtoijcallajegfaaW.PrintLast Go.Proofs.YtoijcallajegfaaW.PrintMore
attribute [local go_sem] max2_int min2_int max_two min_two max_three min_three max_four min_four
set_option linter.unusedVariables false
set_option linter.unusedSimpArgs false
def impl_InversePerm.l0 : Nat → List Int → List Int → Int → Int → Option (List Int)
  | 0, _, _, _, _ => none
  | k + 1, x3, x12, x13, x14 => if x14 < x13 then (if 0 ≤ x14 then (if x14 < (x12.length : Int) then (if 0 ≤ (rd x12 x14) then (if (rd x12 x14) < (x3.length : Int) then (impl_InversePerm.l0 k (x3.set ((rd x12 x14) : Int).toNat x14) x12 x13 (wrap64 (x14 + 1))) else (none)) else (none)) else (none)) else (none)) else (some x3)
def impl_InversePerm.f (k : Nat) (l0 : List Int) : Option (List Int) := (impl_PermOk.f k l0).bind fun t310 => (if t310 = true then (if 0 ≤ (l0.length : Int) then (if ((l0.length : Int) : Int).toNat ≤ 35184372088832 then (impl_InversePerm.l0 k (List.replicate ((l0.length : Int) : Int).toNat 0) l0 (l0.length : Int) 0) else (none)) else (none)) else (some ([] : List Int)))
theorem impl_InversePerm.mono_l : ∀ k, (∀ y0 y1 y2 y3, LeO (impl_InversePerm.l0 k y0 y1 y2 y3) (impl_InversePerm.l0 (k + 1) y0 y1 y2 y3))
  | 0 => fun _ _ _ _ r h => by simp [impl_InversePerm.l0] at h
  | k + 1 => by
    have ih0 := impl_InversePerm.mono_l k
    · intro y0 y1 y2 y3
      unfold impl_InversePerm.l0
      repeat' first|exact ih0 _ _ _ _|exact impl_PermOk.mono _ _|exact lo_|refine LeO.ite ?_ ?_|refine LeO.bind ?_ (fun _ => ?_)
theorem impl_InversePerm.mono : ∀ a0 k, LeO (impl_InversePerm.f k a0) (impl_InversePerm.f (k + 1) a0) := by
  intro a0 k
  have ih0 := impl_InversePerm.mono_l k
  unfold impl_InversePerm.f
  repeat' first|exact ih0 _ _ _ _|exact impl_PermOk.mono _ _|exact lo_|refine LeO.ite ?_ ?_|refine LeO.bind ?_ (fun _ => ?_)
set_option maxHeartbeats 8000000 in
set_option maxRecDepth 100000 in
theorem impl_InversePerm.calls (k : Nat) (A0 : Option Addr) (c0 : Nat) (l0 : List Int) (r : List Int) (w : World) (hr0 : Kd.C (Kd.int .i64) w A0 l0.length l0) (hc0 : l0.length ≤ c0) (h : impl_InversePerm.f k l0 = some r) :
    Calls Try.prog 122 #[.slice A0 l0.length c0] w fun e w' => ∃ v0_ : Value, e = .returned (v0_) ∧ Kd.R (Kd.int .i64) 3 w' w.heap.size (fun _ => True) v0_ r ∧ Below w.heap.size w w' := by
  have HR0 := Aside0.mk hr0
  have HC0 := Aside0.mk hc0
  clear hr0 hc0
  have HB := Aside0.mk (Below.refl w.heap.size w)
  have H := h
  unfold impl_InversePerm.f at H
  clear h
  obtain ⟨t310, A2, H⟩ := bi_ H
  by_cases c3 : t310 = true
  · subst c3
    rw [if_pos rfl] at H
    have c4 := cp_ H
    replace H := ca_ H
    have c4b0 := eq_true c4
    have c4b1 := decide_eq_true c4
    clear c4
    have c5 := cp_ H
    replace H := ca_ H
    have c5b0 := eq_true c5
    have c5b1 := decide_eq_true c5
    clear c5
    obtain ⟨y311, hy311⟩ : ∃ y_ : List Int, y_ = (List.replicate ((l0.length : Int) : Int).toNat 0) := ⟨_, rfl⟩
    replace H : (impl_InversePerm.l0 k y311 l0 (l0.length : Int) 0) = some r := by first | (rw [hy311]; exact H) | exact H
    have Ny311 := Aside0.mk hy311
    clear hy311
    have H' := Aside0.mk H
    clear H
    go_enter Try.func122, Try.ntmps122
    go_wp2_with (first | ((with_reducible refine gate_callee (f := 109) rfl ?_); refine gL_ (some 7) Try.func109 #[.slice A0 l0.length c0] rfl qa_ ?_; (with_reducible refine (impl_PermOk.calls k _ _ l0 true _ (cc_ HR0) HC0.out A2.out).mono ?_); rintro e w6 ⟨rfl, hb⟩; refine ⟨_, rfl, ?_⟩; replace HB := b1_ hb; clear hb) | ((with_reducible refine gate_dst (N := 11) rfl ?_); refine Kd.R_make (Kd.int .i64) _ 3 rfl (N := 11) rfl 23 _ _ rfl (l0.length : Int) rfl rfl Try.underlying23 (.int .i64 0) 8 info3 rfl (by decide) (by omega) 0 (ok := fun _ => True) (okp := fun _ => True) rfl (fun _ hk => hk) trivial (of_decide_eq_true qe_) (Nat.le_trans (Nat.mul_le_mul_right _ (of_decide_eq_true qe_ : (l0.length : Int).toNat ≤ 35184372088832)) (by omega)) (Below.refl _ _) (Nat.le_refl _) ?_; intro v312 w7 ho8 hb hg_ hnew_; clear hg_ hnew_; (first | rw [← Ny311.out] at ho8 | (simp only [Int.reduceToNat] at ho8; rw [← Ny311.out] at ho8)); have HO313 := rl_ w ho8; replace HB := b1_ hb; clear hb ho8))
    go_loopg [14] k (fun kq v14 w' => ∃ (x3_1 : List Int) (x14_1 : Int), v14 = .int .i64 x14_1 ∧ Aside0 (impl_InversePerm.l0 kq x3_1 l0 (l0.length : Int) x14_1 = some r) ∧ Aside0 (kq ≤ k) ∧ Aside0 (Kd.R (Kd.int .i64) 3 w' w.heap.size (fun _ => True) v312 x3_1) ∧ Aside0 (Below w.heap.size w w'))
    case atStart => exact ⟨(y311), (0), qc_, H', ⟨Nat.le_refl _⟩, ⟨(rr_ HO313)⟩, ⟨hB_⟩⟩
    case round =>
      clear H'
      obtain ⟨x3_1, x14_1, rfl, HA, HK1, HO_3, HB⟩ := hrel
      cases gk with
      | zero => exact absurd HA.out (by simp [impl_InversePerm.l0])
      | succ k1 =>
        have H := HA.out
        clear HA
        simp only [impl_InversePerm.l0] at H
        by_cases c9 : x14_1 < (l0.length : Int)
        · rw [if_pos c9] at H
          have c9b0 := decide_eq_true c9
          clear c9
          have c10 := cp_ H
          replace H := ca_ H
          have c10b0 := decide_eq_true c10
          clear c10
          have c11 := cp_ H
          replace H := ca_ H
          have c11b0 := decide_eq_true c11
          clear c11
          have c12 := cp_ H
          replace H := ca_ H
          have c12b0 := decide_eq_true c12
          clear c12
          have c13 := cp_ H
          replace H := ca_ H
          have c13b0 := decide_eq_true c13
          clear c13
          obtain ⟨y315, hy315⟩ : ∃ y_ : List Int, y_ = (x3_1.set ((rd l0 x14_1) : Int).toNat x14_1) := ⟨_, rfl⟩
          replace H : (impl_InversePerm.l0 k1 y315 l0 (l0.length : Int) (wrap64 (x14_1 + 1))) = some r := by first | (rw [hy315]; exact H) | exact H
          have Ny315 := Aside0.mk hy315
          clear hy315
          have H' := Aside0.mk H
          clear H
          have p314 : 0 ≤ (x14_1 : Int) := of_decide_eq_true qe_
          have q314 : x14_1 < (l0.length : Int) := of_decide_eq_true qe_
          obtain ⟨ad314, e314, hx314_0⟩ := Kd.at_int HR0.out x14_1 p314 q314
          cases e314
          replace hx314_0 := (HB.out.cell (World.block_lt_of_cell? w _ hx314_0)).trans hx314_0
          replace p314 := eq_true p314
          replace q314 := eq_true q314
          have p14 : 0 ≤ ((rd l0 x14_1) : Int) := of_decide_eq_true qe_
          have q14 : ((rd l0 x14_1) : Int) < ((x3_1.length : Int) : Int) := of_decide_eq_true qe_
          obtain ⟨go14, co14, eo14, gb14, gl14, cl14, HG14⟩ := Kd.R_form HO_3.out (by omega)
          (first | cases eo14 | (injection eo14 with ea_ en_ ec_; (first | subst ea_ | (injection ea_ with ea_; subst ea_)); subst ec_; clear en_))
          have GB14 := Aside0.mk gb14
          have GG14 := Aside0.mk HG14
          clear gb14 gl14 HG14
          obtain ⟨hx14_0, hf14_0⟩ := Kd.R_celln 0 HO_3.out ((rd l0 x14_1) : Int) p14 q14
          replace p14 := eq_true p14
          replace q14 := eq_true q14
          have HP15 := Kd.R_putg HO_3.out ((rd l0 x14_1) : Int) x14_1
          go_wp2_with (first | ((with_reducible refine gate_store (t := 3) (p := 22) rfl ?_); refine store_event (t := 3) (p := 22) (v := ?vo_w16) (w1 := (wr.setCell ⟨go14, ((rd l0 x14_1) : Int).toNat, none⟩ (.int .i64 x14_1))) ?hg ?ho ?hn ?hr ?_; (case ho => rfl); (case hg => rfl); (case hn => rfl); (case hr => first | (go_simp; done) | (go_simp; rfl)); intro w16 hw; have hg : wr.grownBy w16 (some go14) := (by rw [hw]; exact HP15.2); have hp_ : Kd.R (Kd.int .i64) 3 w16 w.heap.size (fun _ => True) (.slice (some ⟨go14, 0, none⟩) x3_1.length co14) y315 := (by rw [hw, Ny315.out]; exact HP15.1); clear HP15; replace HO_3 := Aside0.mk (hp_); replace HB := Aside0.mk ((by rw [hw]; exact below_set (HB.out) GB14.out : Below w.heap.size w w16)); clear hg hw hp_))
          go_roundg k1
          case measure => have := HK1.out; omega
          case rel => exact ⟨(y315), (wrap64 (x14_1 + 1)), qc_, H', ⟨by have := HK1.out; omega⟩, ⟨(rr_ HO_3)⟩, ⟨hB_⟩⟩
        · rw [if_neg c9] at H
          have c9b0 := decide_eq_false c9
          clear c9
          obtain rfl := Option.some.inj H
          go_wp2
          go_ret
          exact ⟨_, qb_, (rr_ HO_3), hB_⟩
  · replace c3 := Bool.eq_false_iff.mpr c3
    subst c3
    have H1 : (some ([] : List Int)) = some r := by rw [if_neg (show ¬ (false = true) by decide)] at H; exact H
    clear H
    have H := H1
    clear H1
    obtain rfl := Option.some.inj H
    go_enter Try.func122, Try.ntmps122
    go_wp2_with (first | ((with_reducible refine gate_callee (f := 109) rfl ?_); refine gL_ (some 7) Try.func109 #[.slice A0 l0.length c0] rfl qa_ ?_; (with_reducible refine (impl_PermOk.calls k _ _ l0 false _ (cc_ HR0) HC0.out A2.out).mono ?_); rintro e w17 ⟨rfl, hb⟩; refine ⟨_, rfl, ?_⟩; replace HB := b1_ hb; clear hb))
    go_ret
    exact ⟨_, qb_, by first | exact Kd.R_nil _ _ _ _ _ | exact Kd.N_nil _ _ _ _ _ | exact Kd.V_nil _ _ _ _ _ | exact Kd.Q_nil _ _ _ _ _ | exact Kd.S_nil _ _ _ _ _, hB_⟩
end Go.Proofs.Ytoijcallajegfaa.A
end
section
/- What every law does with its arguments; inverses. No conditions. -/
namespace Go.Proofs.Ytoijcallajegfaa.M
set_option linter.unusedVariables false
set_option linter.unusedSimpArgs false
open Go.RowKit Go.Proofs.YtoijcallajegfaaW.PrintWords Go.Proofs.YtoijcallajegfaaW.PrintLast Go.Proofs.YtoijcallajegfaaW.PrintMore Go.Proofs.Ytoijcallajegfaa.A
theorem rd_set {l : List Int} {i j : Nat} {x : Int} (h : i < l.length) : rd (l.set i x) (j : Int) = if i = j then x else rd l (j : Int) := by
  unfold rd
  simp only [Int.toNat_natCast]
  rw [List.getD_eq_getElem?_getD, List.getD_eq_getElem?_getD, List.getElem?_set]
  by_cases e : i = j
  · subst e
    simp [h]
  · simp [e]
theorem ext_rd {a b : List Int} (hl : a.length = b.length) (h : ∀ i : Nat, i < a.length → rd a (i : Int) = rd b (i : Int)) : a = b := by
  apply List.ext_getElem hl
  intro i h1 h2
  rw [← rd_get a i h1, ← rd_get b i h2]
  exact h i h1
theorem inv_of {p c : List Nat} (hp : IsP p) (hc : c.length = p.length) (h : ∀ j, j < p.length → g c (g p j) = j) : c = inv p := by
  refine ext_g (by rw [inv_len, hc]) (fun x hx => ?_)
  rw [hc] at hx
  rw [g_inv hx]
  have := h (ix p x) (ix_lt hp hx)
  rw [g_ix hp hx] at this
  exact this
theorem inv_step {p c : List Nat} (hp : IsP p) {i : Nat} (hi : i < p.length) (hc : c.length = p.length) (h : ∀ j, j < i → g c (g p j) = j) : ∀ j, j < i + 1 → g (c.set (g p i) i) (g p j) = j := by
  intro j hj
  rw [g_set (by rw [hc]; exact g_lt hp hi)]
  by_cases e : j = i
  · subst e
    simp
  · rw [if_neg (fun k => e (g_inj hp (by omega) hi k.symm))]
    exact h j (by omega)
theorem impl_inv {p : List Nat} (hp : IsP p) (h24 : p.length ≤ 24) : Ev (fun k => impl_InversePerm.f k (I p)) (I (inv p)) := by
  unfold impl_InversePerm.f
  have H : ∀ (d i : Nat) (c : List Nat), i + d = p.length → c.length = p.length → (∀ j, j < i → g c (g p j) = j) → Ev (fun k => impl_InversePerm.l0 k (I c) (I p) (p.length : Int) (i : Int)) (I (inv p)) := by
    intro d
    induction d with
    | zero =>
      intro i c h hc hx
      refine ev_succ ?_
      have h1 : ¬ ((i : Int) < (p.length : Int)) := by omega
      rw [← inv_of hp hc (fun j hj => hx j (by omega))]
      simp only [impl_InversePerm.l0, h1, if_false]
      exact Ev.now _
    | succ d ih =>
      intro i c h hc hx
      refine ev_succ ?_
      have hi : i < p.length := by omega
      have h1 : (i : Int) < (p.length : Int) := by omega
      have h2 : (0 : Int) ≤ (i : Int) := by omega
      have h3 := w64s i (by omega)
      have h4 : (0 : Int) ≤ ((g p i : Nat) : Int) := by omega
      have h5 : ((g p i : Nat) : Int) < (c.length : Int) := by have := g_lt hp hi; omega
      simp only [impl_InversePerm.l0, h1, h2, h3, h4, h5, rdI, I_len', I_set, if_true, Int.toNat_natCast]
      exact ih (i + 1) _ (by omega) (by rw [List.length_set]; exact hc) (inv_step hp hi hc hx)
  refine Ev.bind (impl_permOk (I p)) ?_
  have h0 : permB (I p) = true := permB_I.mpr ⟨hp, h24⟩
  have h1 : (0 : Int) ≤ (p.length : Int) := by omega
  have h2 : p.length ≤ 35184372088832 := by omega
  simp only [h0, I_len', h1, h2, if_true, Int.toNat_natCast]
  have := H p.length 0 (List.replicate p.length 0) (by omega) (by simp) (fun j hj => by omega)
  rw [I_rep] at this
  exact this
end Go.Proofs.Ytoijcallajegfaa.M
end
section
/- Names from a square, and renaming: the program and the reference act alike. No conditions. -/
namespace Go.Proofs.Ytoijcallajegfaa.M
set_option linter.unusedVariables false
set_option linter.unusedSimpArgs false
open Go.RowKit Go.Proofs.YtoijcallajegfaaW.PrintWords Go.Proofs.YtoijcallajegfaaW.PrintLast Go.Proofs.YtoijcallajegfaaW.PrintMore Go.Proofs.Ytoijcallajegfaa.A
theorem set_mid5 {α : Type} (p : List α) (x y : α) (xs : List α) : (p ++ x :: xs).set p.length y = p ++ y :: xs := by
  induction p with
  | nil => rfl
  | cons a p ih => simp [ih]
theorem isP_reach {r u : List Nat} (hs : Sf r u) {s : Nat} (h : s < r.length) : IsP (reach r u s) ∧ (reach r u s).length = r.length := by
  obtain ⟨h1, h2⟩ := reach_full hs h
  have l1 := h1.le
  have l2 := nodup_sub_len5 (List.range r.length) (reach r u s) List.nodup_range (fun x hx => h2 x (List.mem_range.mp hx))
  rw [List.length_range] at l2
  have hl : (reach r u s).length = r.length := by omega
  exact ⟨⟨fun x hx => by rw [hl]; exact h1.lt x hx, h1.nd⟩, hl⟩
def nm (r u : List Nat) (s : Nat) : List Nat := inv (reach r u s)
theorem isP_nm {r u : List Nat} (hs : Sf r u) {s : Nat} (h : s < r.length) : IsP (nm r u s) ∧ (nm r u s).length = r.length := by
  obtain ⟨h1, h2⟩ := isP_reach hs h
  exact ⟨isP_inv h1, by unfold nm; rw [inv_len, h2]⟩
theorem ren_of {p q c : List Nat} (hq : IsP q) (hl : q.length = p.length) (hc : c.length = p.length) (h : ∀ j, j < p.length → g c (g q j) = g q (g p j)) : c = ren p q := by
  refine ext_g (by rw [ren_len, hc]) (fun x hx => ?_)
  rw [hc] at hx
  rw [g_ren hx]
  have hx' : ix q x < q.length := ix_lt hq (by omega)
  have := h (ix q x) (by omega)
  rw [g_ix hq (by omega)] at this
  exact this
theorem ren_step {p q c : List Nat} (hq : IsP q) (hl : q.length = p.length) {i : Nat} (hi : i < p.length) (hc : c.length = p.length) (h : ∀ j, j < i → g c (g q j) = g q (g p j)) : ∀ j, j < i + 1 → g (c.set (g q i) (g q (g p i))) (g q j) = g q (g p j) := by
  intro j hj
  have hlt : g q i < c.length := by rw [hc, ← hl]; exact g_lt hq (by omega)
  rw [g_set hlt]
  by_cases e : j = i
  · subst e
    simp
  · rw [if_neg (fun k => e (g_inj hq (by omega) (by omega) k.symm))]
    exact h j (by omega)
theorem impl_ren {p q : List Nat} (hp : IsP p) (hq : IsP q) (hl : q.length = p.length) (h24 : p.length ≤ 24) : Ev (fun k => impl_RenamePerm.f k (I p) (I q)) (I (ren p q)) := by
  unfold impl_RenamePerm.f
  have H : ∀ (d i : Nat) (c : List Nat), i + d = p.length → c.length = p.length → (∀ j, j < i → g c (g q j) = g q (g p j)) → Ev (fun k => impl_RenamePerm.l0 k (I q) (I c) (I p) (p.length : Int) (i : Int)) (I (ren p q)) := by
    intro d
    induction d with
    | zero =>
      intro i c h hc hx
      refine ev_succ ?_
      have h1 : ¬ ((i : Int) < (p.length : Int)) := by omega
      rw [← ren_of hq hl hc (fun j hj => hx j (by omega))]
      simp only [impl_RenamePerm.l0, h1, if_false]
      exact Ev.now _
    | succ d ih =>
      intro i c h hc hx
      refine ev_succ ?_
      have hi : i < p.length := by omega
      have k1 := g_lt hp hi
      have k2 := g_lt hq (i := i) (by omega)
      have h1 : (i : Int) < (p.length : Int) := by omega
      have h2 : (0 : Int) ≤ (i : Int) := by omega
      have h4 : (i : Int) < (q.length : Int) := by omega
      have h5 : (0 : Int) ≤ ((g p i : Nat) : Int) := by omega
      have h6 : ((g p i : Nat) : Int) < (q.length : Int) := by omega
      have h7 : (0 : Int) ≤ ((g q i : Nat) : Int) := by omega
      have h8 : ((g q i : Nat) : Int) < (c.length : Int) := by omega
      have h3 := w64s i (by omega)
      simp only [impl_RenamePerm.l0, h1, h2, h3, h4, h5, h6, h7, h8, rdI, I_len', I_set, if_true, Int.toNat_natCast]
      exact ih (i + 1) _ (by omega) (by rw [List.length_set]; exact hc) (ren_step hq hl hi hc hx)
  have b1 : permB (I p) = true := permB_I.mpr ⟨hp, h24⟩
  have b2 : permB (I q) = true := permB_I.mpr ⟨hq, by omega⟩
  refine Ev.bind (impl_permOk _) ?_
  simp only [b1, if_true]
  refine Ev.bind (impl_permOk _) ?_
  have e : ((p.length : Int) != (q.length : Int)) = false := by rw [bne_eq_false_iff_eq]; omega
  simp only [b2, I_len', e, if_true]
  refine ev_succ ?_
  have h1 : (0 : Int) ≤ (p.length : Int) := by omega
  have h2 : p.length ≤ 35184372088832 := by omega
  simp only [impl_RenamePerm.j0, I_len', h1, h2, Bool.false_eq_true, if_false, if_true, Int.toNat_natCast]
  have := H p.length 0 (List.replicate p.length 0) (by omega) (by simp) (fun j hj => by omega)
  rw [I_rep] at this
  exact this
def rnS (r u q : List Nat) : List Nat × List Nat := (ren r q, ren u q)
theorem impl_renS {r u q : List Nat} (hs : Sf r u) (hq : IsP q) (hl : q.length = r.length) : Ev (fun k => impl_RenameSurface.f k (I r) (I u) (I q)) (I (rnS r u q).1, I (rnS r u q).2, true) := by
  unfold impl_RenameSurface.f
  have h0 := surfB_I.mpr hs
  have hle := hs.le
  have b2 : permB (I q) = true := permB_I.mpr ⟨hq, by omega⟩
  refine Ev.bind (impl_surf _ _) ?_
  simp only [h0, if_true]
  refine Ev.bind (impl_permOk _) ?_
  have e : ((q.length : Int) != (r.length : Int)) = false := by rw [bne_eq_false_iff_eq]; omega
  simp only [b2, I_len', e, if_true]
  refine ev_succ ?_
  simp only [impl_RenameSurface.j0, Bool.false_eq_true, if_false]
  exact Ev.bind (impl_ren hs.pr hq hl hs.le) (Ev.bind (impl_ren hs.pu hq (by rw [hl, hs.eq]) (by rw [hs.eq]; exact hs.le)) (Ev.now _))
def nmP (n : Nat) (out : List Nat) : List Int := (List.range n).map (fun x => if x ∈ out then ((out.idxOf x : Nat) : Int) else -1)
theorem nmP_len (n : Nat) (out : List Nat) : (nmP n out).length = n := by simp [nmP]
theorem rd_nmP {n : Nat} {out : List Nat} {x : Nat} (h : x < n) : rd (nmP n out) (x : Int) = if x ∈ out then ((out.idxOf x : Nat) : Int) else -1 := by
  rw [rd_get _ _ (by rw [nmP_len]; exact h)]
  simp [nmP]
theorem nmP_add {n : Nat} {out : List Nat} {x : Nat} (h : x < n) (hn : x ∉ out) : (nmP n out).set x (out.length : Int) = nmP n (out ++ [x]) := by
  refine ext_rd (by rw [List.length_set, nmP_len, nmP_len]) (fun i hi => ?_)
  rw [List.length_set, nmP_len] at hi
  rw [rd_set (by rw [nmP_len]; exact h), rd_nmP hi, rd_nmP hi]
  by_cases e : x = i
  · subst e
    have : x ∈ out ++ [x] := by simp
    rw [if_pos rfl, if_pos this, List.idxOf_append, if_neg hn]
    simp
  · rw [if_neg e]
    by_cases hm : i ∈ out
    · have : i ∈ out ++ [x] := by simp [hm]
      rw [if_pos hm, if_pos this, List.idxOf_append, if_pos hm]
    · have : i ∉ out ++ [x] := by simp [hm]; omega
      rw [if_neg hm, if_neg this]
theorem nmP_full {n : Nat} {out : List Nat} (hl : out.length = n) (h : ∀ x, x < n → x ∈ out) : nmP n out = I (inv out) := by
  refine ext_rd (by rw [nmP_len, I_len, inv_len, hl]) (fun i hi => ?_)
  rw [nmP_len] at hi
  rw [rd_nmP hi, if_pos (h i hi), rdI, g_inv (by omega)]
  rfl
theorem names_one {p q : List Nat} {out pr : List Nat} (a j : Nat) (hj : j < pr.length) (hpr : pr.length ≤ 2) (hl : out.length ≤ 1000) (hx : g pr j < p.length) (res : List Int)
    (H : Ev (fun k => impl_NamesFrom.l2 k (nmP p.length (st1 out (g pr j))) (I (st1 out (g pr j))) (a : Int) (I pr) (pr.length : Int) ((j + 1 : Nat) : Int) (I p) (I q)) res) :
    Ev (fun k => impl_NamesFrom.l2 k (nmP p.length out) (I out) (a : Int) (I pr) (pr.length : Int) (j : Int) (I p) (I q)) res := by
  refine ev_succ ?_
  have h1 : (j : Int) < (pr.length : Int) := by omega
  have h2 : (0 : Int) ≤ (j : Int) := by omega
  have h4 : (I out).length < 17592186044416 := by rw [I_len]; omega
  have h5 : (0 : Int) ≤ ((g pr j : Nat) : Int) := by omega
  have h6 : ((g pr j : Nat) : Int) < ((nmP p.length out).length : Int) := by rw [nmP_len]; omega
  have h7 : rd (nmP p.length out) ((g pr j : Nat) : Int) = if g pr j ∈ out then ((out.idxOf (g pr j) : Nat) : Int) else -1 := rd_nmP hx
  have h3 := w64s j (by omega)
  by_cases hin : g pr j ∈ out
  · have e : st1 out (g pr j) = out := by unfold st1; rw [if_pos hin]
    rw [e] at H
    rw [if_pos hin] at h7
    have h8 : ¬ (((out.idxOf (g pr j) : Nat) : Int) < 0) := by omega
    simp only [impl_NamesFrom.l2, h1, h2, h3, h5, h6, h7, h8, rdI, I_len', if_true, if_false]
    exact H
  · have e : st1 out (g pr j) = out ++ [g pr j] := by unfold st1; rw [if_neg hin]
    rw [e, ← nmP_add hx hin, ← I_snoc] at H
    rw [if_neg hin] at h7
    have h8 : (-1 : Int) < 0 := by omega
    simp only [impl_NamesFrom.l2, h1, h2, h3, h4, h5, h6, h7, h8, rdI, I_len', if_true, Int.toNat_natCast]
    exact H
theorem names_loop {p q : List Nat} (hp : IsP p) (hq : IsP q) (hl : q.length = p.length) (h24 : p.length ≤ 24) (f : Nat) : ∀ (a : Nat) (out : List Nat), RInv p.length out → a ≤ out.length → p.length < f + a →
    Ev (fun k => impl_NamesFrom.l1 k (nmP p.length out) (I out) (a : Int) (I p) (I q)) (nmP p.length (bfs p q f a out)) := by
  induction f with
  | zero =>
    intro a out hr ha hf
    have := hr.le
    omega
  | succ f ih =>
    intro a out hr ha hf
    have hle := hr.le
    refine ev_succ ?_
    by_cases h : a < out.length
    · have hx := hr.g h
      have hg1 := g_lt hp hx
      have hg2 : g q (g out a) < p.length := by have := g_lt hq (i := g out a) (by omega); omega
      have r1 := hr.st hg1
      have r2 := r1.st hg2
      have h1 : (a : Int) < (out.length : Int) := by omega
      have h2 : (0 : Int) ≤ (a : Int) := by omega
      have h3 : ((g out a : Nat) : Int) < (p.length : Int) := by omega
      have h4 : (0 : Int) ≤ ((g out a : Nat) : Int) := by omega
      have h5 : ((g out a : Nat) : Int) < (q.length : Int) := by omega
      have hb : bfs p q (f + 1) a out = bfs p q f (a + 1) (st1 (st1 out (g p (g out a))) (g q (g out a))) := by
        rw [bfs, if_pos h]
      rw [hb]
      have key := ih (a + 1) _ r2 (Nat.le_trans (by omega : a + 1 ≤ out.length) (Nat.le_trans (st1_len _ _) (st1_len _ _))) (by omega)
      have hq1 : a ≤ 9000000000000000000 := by omega
      have l1 := r1.le
      simp only [impl_NamesFrom.l1, h1, h2, h3, h4, h5, rdI, I_len', if_true, Option.bind_some, I_pair]
      refine names_one (q := q) a 0 (by simp) (by simp) (by omega) hg1 _ ?_
      refine names_one (q := q) a 1 (by simp) (by simp) (by simp only [g, List.getD_cons_zero] at l1 ⊢; omega) hg2 _ ?_
      refine ev_succ ?_
      have h7 : ¬ (((1 + 1 : Nat) : Int) < (([g p (g out a), g q (g out a)] : List Nat).length : Int)) := by simp
      have h6 := w64s a hq1
      simp only [impl_NamesFrom.l2, h7, h6, if_false]
      exact key
    · have h1 : ¬ ((a : Int) < (out.length : Int)) := by omega
      have hb : bfs p q (f + 1) a out = out := by rw [bfs, if_neg h]
      rw [hb]
      simp only [impl_NamesFrom.l1, h1, I_len', if_false]
      exact Ev.now _
theorem impl_names {r u : List Nat} (hs : Sf r u) {s : Nat} (h : s < r.length) : Ev (fun k => impl_NamesFrom.f k (I r) (I u) (s : Int)) (I (nm r u s)) := by
  have hle := hs.le
  have h0 := surfB_I.mpr hs
  obtain ⟨k1, k2⟩ := reach_full hs h
  obtain ⟨_, k3⟩ := isP_reach hs h
  have fin := names_loop hs.pr hs.pu hs.eq hs.le (r.length + 1) 0 [s] ⟨by simp, by simpa using h⟩ (by simp) (by omega)
  have e1 : bfs r u (r.length + 1) 0 [s] = reach r u s := rfl
  rw [e1, nmP_full k3 k2] at fin
  have H : ∀ d i : Nat, i + d = r.length → Ev (fun k => impl_NamesFrom.l0 k (s : Int) (List.replicate i (-1) ++ List.replicate d 0) (r.length : Int) (i : Int) (I r) (I u)) (I (nm r u s)) := by
    intro d
    induction d with
    | zero =>
      intro i hi
      obtain rfl : i = r.length := by omega
      refine ev_succ ?_
      have c1 : ¬ ((r.length : Int) < (r.length : Int)) := by omega
      have c2 : (0 : Int) ≤ (s : Int) := by omega
      have c3 : (s : Int) < (((List.replicate r.length (-1) ++ List.replicate 0 0 : List Int)).length : Int) := by simp; omega
      have c4 : (List.replicate r.length (-1) ++ List.replicate 0 0 : List Int).set ((s : Int)).toNat 0 = nmP r.length [s] := by
        refine ext_rd (by rw [List.length_set, nmP_len]; simp) (fun i hi => ?_)
        rw [List.length_set] at hi
        have hi' : i < r.length := by simpa using hi
        rw [Int.toNat_natCast, rd_set (by simp; exact h), rd_nmP hi']
        by_cases e : s = i
        · subst e
          simp
        · rw [if_neg e]
          have : i ∉ [s] := by simp; omega
          rw [if_neg this, rd_get _ _ hi]
          simp
      simp only [impl_NamesFrom.l0, c1, c2, c3, c4, if_true, if_false]
      exact fin
    | succ d ih =>
      intro i hi
      refine ev_succ ?_
      have c1 : (i : Int) < (r.length : Int) := by omega
      have c2 : (0 : Int) ≤ (i : Int) := by omega
      have c3 : (i : Int) < (((List.replicate i (-1) ++ List.replicate (d + 1) 0 : List Int)).length : Int) := by simp; omega
      have c4 : (List.replicate i (-1) ++ List.replicate (d + 1) 0 : List Int).set ((i : Int)).toNat (-1) = List.replicate (i + 1) (-1) ++ List.replicate d 0 := by
        have hm := set_mid5 (List.replicate i (-1 : Int)) 0 (-1) (List.replicate d 0)
        rw [List.length_replicate] at hm
        rw [Int.toNat_natCast, List.replicate_succ, hm, List.replicate_succ', List.append_assoc]
        rfl
      have c5 := w64s i (by omega)
      simp only [impl_NamesFrom.l0, c1, c2, c3, c4, c5, if_true]
      exact ih (i + 1) (by omega)
  unfold impl_NamesFrom.f
  refine Ev.bind (impl_surf _ _) ?_
  have n1 : ¬ ((s : Int) < 0) := by omega
  have n2 : decide ((s : Int) ≥ (r.length : Int)) = false := by rw [decide_eq_false_iff_not]; omega
  simp only [h0, n1, n2, I_len', if_true, if_false]
  refine ev_succ ?_
  have z1 : (0 : Int) ≤ (r.length : Int) := by omega
  have z2 : r.length ≤ 35184372088832 := by omega
  simp only [impl_NamesFrom.j0, Bool.false_eq_true, I_len', z1, z2, if_true, if_false, Int.toNat_natCast, Option.bind_some, List.length_replicate]
  have := H r.length 0 (Nat.zero_add _)
  simpa using this
end Go.Proofs.Ytoijcallajegfaa.M
end
section
namespace Go.Proofs.Ytoijcallajegfaa.A
open Go.RowKit Go.Proofs.YtoijcallajegfaaW.PrintWords Go.Proofs.YtoijcallajegfaaW.PrintLast Go.Proofs.YtoijcallajegfaaW.PrintMore
attribute [local go_sem] max2_int min2_int max_two min_two max_three min_three max_four min_four
set_option linter.unusedVariables false
set_option linter.unusedSimpArgs false
def slices_Equal_int_int.l0 : Nat → List Int → List Int → Int → Int → Option (Bool)
  | 0, _, _, _, _ => none
  | k + 1, x0, x1, x12, x13 => if x13 < x12 then (if 0 ≤ x13 then (if x13 < (x0.length : Int) then (if x13 < (x1.length : Int) then (if (rd x0 x13) = (rd x1 x13) then (slices_Equal_int_int.l0 k x0 x1 x12 (wrap64 (x13 + 1))) else (some false)) else (none)) else (none)) else (none)) else (some true)
def slices_Equal_int_int.f (k : Nat) (l0 : List Int) (l1 : List Int) : Option (Bool) := if (l0.length : Int) = (l1.length : Int) then (slices_Equal_int_int.l0 k l0 l1 (l0.length : Int) 0) else (some false)
theorem slices_Equal_int_int.mono_l : ∀ k, (∀ y0 y1 y2 y3, LeO (slices_Equal_int_int.l0 k y0 y1 y2 y3) (slices_Equal_int_int.l0 (k + 1) y0 y1 y2 y3))
  | 0 => fun _ _ _ _ r h => by simp [slices_Equal_int_int.l0] at h
  | k + 1 => by
    have ih0 := slices_Equal_int_int.mono_l k
    · intro y0 y1 y2 y3
      unfold slices_Equal_int_int.l0
      repeat' first|exact ih0 _ _ _ _|exact lo_|refine LeO.ite ?_ ?_|refine LeO.bind ?_ (fun _ => ?_)
theorem slices_Equal_int_int.mono : ∀ a0 a1 k, LeO (slices_Equal_int_int.f k a0 a1) (slices_Equal_int_int.f (k + 1) a0 a1) := by
  intro a0 a1 k
  have ih0 := slices_Equal_int_int.mono_l k
  unfold slices_Equal_int_int.f
  repeat' first|exact ih0 _ _ _ _|exact lo_|refine LeO.ite ?_ ?_|refine LeO.bind ?_ (fun _ => ?_)
set_option maxHeartbeats 8000000 in
set_option maxRecDepth 100000 in
theorem slices_Equal_int_int.calls (k : Nat) (A0 : Option Addr) (c0 : Nat) (l0 : List Int) (A1 : Option Addr) (c1 : Nat) (l1 : List Int) (r : Bool) (w : World) (hr0 : Kd.C (Kd.int .i64) w A0 l0.length l0) (hc0 : l0.length ≤ c0) (hr1 : Kd.C (Kd.int .i64) w A1 l1.length l1) (hc1 : l1.length ≤ c1) (h : slices_Equal_int_int.f k l0 l1 = some r) :
    Calls Try.prog 106 #[.slice A0 l0.length c0, .slice A1 l1.length c1] w fun e w' => e = .returned (.bool r) ∧ Drawn0 w w' := by
  have HR0 := Aside0.mk hr0
  have HC0 := Aside0.mk hc0
  clear hr0 hc0
  have HR1 := Aside0.mk hr1
  have HC1 := Aside0.mk hc1
  clear hr1 hc1
  have H := h
  unfold slices_Equal_int_int.f at H
  clear h
  by_cases c3 : (l0.length : Int) = (l1.length : Int)
  · rw [if_pos c3] at H
    have c3b0 : ((l0.length : Int) == (l1.length : Int)) = true := beq_iff_eq.mpr c3
    have c3b1 : ((l0.length : Int) != (l1.length : Int)) = false := bne_eq_false_iff_eq.mpr c3
    have c3b2 : (l0.length == l1.length) = true := by first | simpa using c3 | (simp at c3 ⊢; omega)
    clear c3
    have H' := Aside0.mk H
    clear H
    go_enter Try.func106, Try.ntmps106
    go_wp2
    repeat (go_quiet (fail); try go_wp2)
    go_loopg [13] k (fun kq v13 w' => ∃ (x13_1 : Int), v13 = .int .i64 x13_1 ∧ Aside0 (slices_Equal_int_int.l0 kq l0 l1 (l0.length : Int) x13_1 = some r) ∧ Aside0 (kq ≤ k) ∧ Drawn0 w w')
    case atStart => exact ⟨(0), qc_, H', ⟨Nat.le_refl _⟩, by repeat (first | exact Drawn0.refl _ | apply Drawn0.step)⟩
    case round =>
      clear H'
      obtain ⟨x13_1, rfl, HA, HK1, ⟨m1, rfl⟩⟩ := hrel
      cases gk with
      | zero => exact absurd HA.out (by simp [slices_Equal_int_int.l0])
      | succ k1 =>
        have H := HA.out
        clear HA
        simp only [slices_Equal_int_int.l0] at H
        by_cases c4 : x13_1 < (l0.length : Int)
        · rw [if_pos c4] at H
          have c4b0 := decide_eq_true c4
          clear c4
          have c5 := cp_ H
          replace H := ca_ H
          have c5b0 := decide_eq_true c5
          clear c5
          have c6 := cp_ H
          replace H := ca_ H
          have c6b0 := decide_eq_true c6
          clear c6
          have c7 := cp_ H
          replace H := ca_ H
          have c7b0 := decide_eq_true c7
          clear c7
          by_cases c8 : (rd l0 x13_1) = (rd l1 x13_1)
          · rw [if_pos c8] at H
            have c8b0 : ((rd l0 x13_1) == (rd l1 x13_1)) = true := beq_iff_eq.mpr c8
            have c8b1 : ((rd l0 x13_1) != (rd l1 x13_1)) = false := bne_eq_false_iff_eq.mpr c8
            clear c8
            have H' := Aside0.mk H
            clear H
            have p256 : 0 ≤ (x13_1 : Int) := of_decide_eq_true qe_
            have q256 : x13_1 < (l0.length : Int) := of_decide_eq_true qe_
            obtain ⟨ad256, e256, hx256_0⟩ := Kd.at_int HR0.out x13_1 p256 q256
            cases e256
            replace p256 := eq_true p256
            replace q256 := eq_true q256
            have p257 : 0 ≤ (x13_1 : Int) := of_decide_eq_true qe_
            have q257 : x13_1 < (l1.length : Int) := of_decide_eq_true qe_
            obtain ⟨ad257, e257, hx257_0⟩ := Kd.at_int HR1.out x13_1 p257 q257
            cases e257
            replace p257 := eq_true p257
            replace q257 := eq_true q257
            go_wp2
            repeat (go_quiet (fail); try go_wp2)
            go_roundg k1
            case measure => have := HK1.out; omega
            case rel => exact ⟨(wrap64 (x13_1 + 1)), qc_, H', ⟨by have := HK1.out; omega⟩, by repeat (first | exact Drawn0.refl _ | apply Drawn0.step)⟩
          · rw [if_neg c8] at H
            have c8b0 : ((rd l0 x13_1) == (rd l1 x13_1)) = false := beq_eq_false_iff_ne.mpr c8
            have c8b1 : ((rd l0 x13_1) != (rd l1 x13_1)) = true := bne_iff_ne.mpr c8
            obtain rfl := Option.some.inj H
            have p256 : 0 ≤ (x13_1 : Int) := of_decide_eq_true qe_
            have q256 : x13_1 < (l0.length : Int) := of_decide_eq_true qe_
            obtain ⟨ad256, e256, hx256_0⟩ := Kd.at_int HR0.out x13_1 p256 q256
            cases e256
            replace p256 := eq_true p256
            replace q256 := eq_true q256
            have p257 : 0 ≤ (x13_1 : Int) := of_decide_eq_true qe_
            have q257 : x13_1 < (l1.length : Int) := of_decide_eq_true qe_
            obtain ⟨ad257, e257, hx257_0⟩ := Kd.at_int HR1.out x13_1 p257 q257
            cases e257
            replace p257 := eq_true p257
            replace q257 := eq_true q257
            go_wp2
            repeat (go_quiet (fail); try go_wp2)
            go_ret
            exact ⟨qc_, by repeat (first | exact Drawn0.refl _ | apply Drawn0.step)⟩
        · rw [if_neg c4] at H
          have c4b0 := decide_eq_false c4
          clear c4
          obtain rfl := Option.some.inj H
          go_wp2
          repeat (go_quiet (fail); try go_wp2)
          go_ret
          exact ⟨qc_, by repeat (first | exact Drawn0.refl _ | apply Drawn0.step)⟩
  · rw [if_neg c3] at H
    have c3b0 : ((l0.length : Int) == (l1.length : Int)) = false := beq_eq_false_iff_ne.mpr c3
    have c3b1 : ((l0.length : Int) != (l1.length : Int)) = true := bne_iff_ne.mpr c3
    have c3b2 : (l0.length == l1.length) = false := by first | simpa using c3 | (simp at c3 ⊢; omega)
    obtain rfl := Option.some.inj H
    go_enter Try.func106, Try.ntmps106
    go_wp2
    repeat (go_quiet (fail); try go_wp2)
    go_ret
    exact ⟨qc_, by repeat (first | exact Drawn0.refl _ | apply Drawn0.step)⟩
end Go.Proofs.Ytoijcallajegfaa.A
end
section
namespace Go.Proofs.Ytoijcallajegfaa.A
open Go.RowKit Go.Proofs.YtoijcallajegfaaW.PrintWords Go.Proofs.YtoijcallajegfaaW.PrintLast Go.Proofs.YtoijcallajegfaaW.PrintMore
attribute [local go_sem] max2_int min2_int max_two min_two max_three min_three max_four min_four
set_option linter.unusedVariables false
set_option linter.unusedSimpArgs false
def impl_SameList.f (k : Nat) (l0 : List Int) (l1 : List Int) : Option (Bool) := (slices_Equal_int_int.f k l0 l1).bind fun t258 => (some t258)
theorem impl_SameList.mono : ∀ a0 a1 k, LeO (impl_SameList.f k a0 a1) (impl_SameList.f (k + 1) a0 a1) := by
  intro a0 a1 k
  unfold impl_SameList.f
  repeat' first|exact slices_Equal_int_int.mono _ _ _|exact lo_|refine LeO.ite ?_ ?_|refine LeO.bind ?_ (fun _ => ?_)
set_option maxHeartbeats 8000000 in
set_option maxRecDepth 100000 in
theorem impl_SameList.calls (k : Nat) (A0 : Option Addr) (c0 : Nat) (l0 : List Int) (A1 : Option Addr) (c1 : Nat) (l1 : List Int) (r : Bool) (w : World) (hr0 : Kd.C (Kd.int .i64) w A0 l0.length l0) (hc0 : l0.length ≤ c0) (hr1 : Kd.C (Kd.int .i64) w A1 l1.length l1) (hc1 : l1.length ≤ c1) (h : impl_SameList.f k l0 l1 = some r) :
    Calls Try.prog 56 #[.slice A0 l0.length c0, .slice A1 l1.length c1] w fun e w' => e = .returned (.bool r) ∧ Drawn0 w w' := by
  have HR0 := Aside0.mk hr0
  have HC0 := Aside0.mk hc0
  clear hr0 hc0
  have HR1 := Aside0.mk hr1
  have HC1 := Aside0.mk hc1
  clear hr1 hc1
  have H := h
  unfold impl_SameList.f at H
  clear h
  obtain ⟨t258, A3, H⟩ := bi_ H
  obtain rfl := Option.some.inj H
  go_enter Try.func56, Try.ntmps56
  go_wp2_with (first | ((with_reducible refine gate_callee (f := 106) rfl ?_); refine gL_ (some 7) Try.func106 #[.slice A0 l0.length c0, .slice A1 l1.length c1] rfl qa_ ?_; (with_reducible refine (slices_Equal_int_int.calls k _ _ l0 _ _ l1 t258 _ (cc_ HR0) HC0.out (cc_ HR1) HC1.out A3.out).mono ?_); rintro e w' ⟨rfl, ⟨nd, rfl⟩⟩; refine ⟨_, rfl, ?_⟩))
  go_ret
  exact ⟨qc_, by repeat (first | exact Drawn0.refl _ | apply Drawn0.step)⟩
end Go.Proofs.Ytoijcallajegfaa.A
end
section
/- The canonical form: the program and the reference find the same one. No conditions. -/
namespace Go.Proofs.Ytoijcallajegfaa.M
set_option linter.unusedVariables false
set_option linter.unusedSimpArgs false
open Go.RowKit Go.Proofs.YtoijcallajegfaaW.PrintWords Go.Proofs.YtoijcallajegfaaW.PrintLast Go.Proofs.YtoijcallajegfaaW.PrintMore Go.Proofs.Ytoijcallajegfaa.A
def lexC : List Nat → List Nat → Int
  | [], [] => 0
  | [], _ :: _ => -1
  | _ :: _, [] => 1
  | a :: l, b :: m => if a < b then -1 else if b < a then 1 else lexC l m
theorem cmp_ev (a b : Nat) : cmp_Compare_int.f (a : Int) (b : Int) = some (if a < b then -1 else if b < a then 1 else 0) := by
  unfold cmp_Compare_int.f cmp_isNaN_int.f
  simp only [bne_self_eq_false, Option.bind_some, Bool.false_eq_true, if_false]
  by_cases h1 : a < b
  · have : (a : Int) < (b : Int) := by omega
    simp only [h1, this, if_true]
  · have n1 : ¬ (a : Int) < (b : Int) := by omega
    by_cases h2 : b < a
    · have : (a : Int) > (b : Int) := by omega
      simp only [h1, n1, h2, this, if_true, if_false]
    · have n2 : ¬ (a : Int) > (b : Int) := by omega
      simp only [h1, n1, h2, n2, if_false]
theorem lexC_eq : ∀ (a b : List Nat), lexC a b = 0 ↔ a = b := by
  intro a
  induction a with
  | nil => intro b; cases b <;> simp [lexC]
  | cons x a ih =>
    intro b
    cases b with
    | nil => simp [lexC]
    | cons y b =>
      unfold lexC
      by_cases h1 : x < y
      · simp [h1]; omega
      · by_cases h2 : y < x
        · simp [h1, h2]; omega
        · have e : x = y := by omega
          subst e
          simp [h1, ih]
theorem compare_ev (a b : List Nat) (hl : a.length ≤ 1000000) : Ev (fun k => slices_Compare_int_int.f k (I a) (I b)) (lexC a b) := by
  unfold slices_Compare_int_int.f
  have H : ∀ d i : Nat, i + d = a.length → i ≤ b.length → Ev (fun k => slices_Compare_int_int.l0 k (I a) (I b) (I a) (a.length : Int) (i : Int)) (lexC (a.drop i) (b.drop i)) := by
    intro d
    induction d with
    | zero =>
      intro i hi hb
      refine ev_succ ?_
      have c1 : ¬ ((i : Int) < (a.length : Int)) := by omega
      rw [List.drop_of_length_le (l := a) (by omega)]
      simp only [slices_Compare_int_int.l0, c1, I_len', if_false]
      by_cases h : (a.length : Int) < (b.length : Int)
      · have : lexC [] (b.drop i) = -1 := by
          rw [List.drop_eq_getElem_cons (by omega)]
          rfl
        simp only [h, if_true, this]
        exact Ev.now _
      · have : lexC [] (b.drop i) = 0 := by
          rw [List.drop_of_length_le (by omega)]
          rfl
        simp only [h, if_false, this]
        exact Ev.now _
    | succ d ih =>
      intro i hi hb
      have hia : i < a.length := by omega
      rw [List.drop_eq_getElem_cons hia, ← g_get hia]
      have c1 : (i : Int) < (a.length : Int) := by omega
      have c2 : (0 : Int) ≤ (i : Int) := by omega
      have c3 := w64s i (by omega)
      refine ev_succ ?_
      by_cases h : i < b.length
      · rw [List.drop_eq_getElem_cons h, ← g_get h]
        have n1 : ¬ ((i : Int) ≥ (b.length : Int)) := by omega
        have n2 : (i : Int) < (b.length : Int) := by omega
        simp only [slices_Compare_int_int.l0, c1, c2, c3, n1, n2, I_len', rdI, cmp_ev, Option.bind_some, if_true, if_false]
        unfold lexC
        by_cases h1 : g a i < g b i
        · have z : ¬ ((-1 : Int) = 0) := by omega
          simp only [h1, z, if_true, if_false]
          exact Ev.now _
        · by_cases h2 : g b i < g a i
          · have z : ¬ ((1 : Int) = 0) := by omega
            simp only [h1, h2, z, if_true, if_false]
            exact Ev.now _
          · simp only [h1, h2, if_true, if_false]
            exact ih (i + 1) (by omega) (by omega)
      · have n1 : (i : Int) ≥ (b.length : Int) := by omega
        rw [List.drop_of_length_le (l := b) (by omega)]
        simp only [slices_Compare_int_int.l0, c1, c2, n1, I_len', if_true]
        exact Ev.now _
  have key := H a.length 0 (Nat.zero_add _) (Nat.zero_le _)
  rw [List.drop_zero, List.drop_zero] at key
  simp only [I_len']
  exact key
def cmpS (a b : List Nat × List Nat) : Int := if lexC a.1 b.1 = 0 then lexC a.2 b.2 else lexC a.1 b.1
theorem impl_cmpS (a b : List Nat × List Nat) (h1 : a.1.length ≤ 1000000) (h2 : a.2.length ≤ 1000000) : Ev (fun k => impl_compareSurfaces.f k (I a.1) (I a.2) (I b.1) (I b.2)) (cmpS a b) := by
  unfold impl_compareSurfaces.f cmpS
  refine Ev.bind (compare_ev a.1 b.1 h1) ?_
  by_cases h : lexC a.1 b.1 = 0
  · simp only [h, if_true]
    exact Ev.bind (compare_ev a.2 b.2 h2) (Ev.now _)
  · simp only [h, if_false]
    exact Ev.now _
def rS (r u : List Nat) (s : Nat) : List Nat × List Nat := rnS r u (nm r u s)
theorem rS_len {r u : List Nat} (s : Nat) : (rS r u s).1.length = r.length ∧ (rS r u s).2.length = u.length := ⟨ren_len _ _, ren_len _ _⟩
def canK (r u : List Nat) : Nat → List Nat × List Nat
  | 0 => rS r u 0
  | k + 1 => if cmpS (rS r u (k + 1)) (canK r u k) < 0 then rS r u (k + 1) else canK r u k
theorem canK_len {r u : List Nat} (k : Nat) : (canK r u k).1.length = r.length ∧ (canK r u k).2.length = u.length := by
  induction k with
  | zero => exact rS_len 0
  | succ k ih =>
    unfold canK
    split
    · exact rS_len _
    · exact ih
def canS (r u : List Nat) : List Nat × List Nat := canK r u (r.length - 1)
def namedL (r u : List Nat) (n : Nat) : List S33 := (List.range n).map (fun s => (⟨I (rS r u s).1, I (rS r u s).2⟩ : S33))
theorem namedL_len (r u : List Nat) (n : Nat) : (namedL r u n).length = n := by simp [namedL]
theorem rd_named {r u : List Nat} {n i : Nat} (h : i < n) : rd_T33 (namedL r u n) (i : Int) = ⟨I (rS r u i).1, I (rS r u i).2⟩ := by
  unfold rd_T33 namedL
  simp [List.getD_eq_getElem?_getD, h]
theorem count_sq {r u : List Nat} (hs : Sf r u) : Ev (fun k => impl_CountSquares.f k (I r) (I u)) (r.length : Int) := by
  unfold impl_CountSquares.f
  refine Ev.bind (impl_surf _ _) ?_
  have h0 := surfB_I.mpr hs
  simp only [h0, I_len', if_true]
  exact Ev.now _
theorem impl_named {r u : List Nat} (hs : Sf r u) : Ev (fun k => impl_namedFrom.f k (I r) (I u)) (namedL r u r.length) := by
  have hle := hs.le
  unfold impl_namedFrom.f
  have H : ∀ d i : Nat, i + d = r.length → Ev (fun k => impl_namedFrom.l0 k (namedL r u i) (i : Int) (I r) (I u)) (namedL r u r.length) := by
    intro d
    induction d with
    | zero =>
      intro i hi
      obtain rfl : i = r.length := by omega
      refine ev_succ ?_
      simp only [impl_namedFrom.l0]
      refine Ev.bind (count_sq hs) ?_
      have c1 : ¬ ((r.length : Int) < (r.length : Int)) := by omega
      simp only [c1, if_false]
      exact Ev.now _
    | succ d ih =>
      intro i hi
      have hil : i < r.length := by omega
      have q1 := isP_nm hs hil
      refine ev_succ ?_
      simp only [impl_namedFrom.l0]
      refine Ev.bind (count_sq hs) ?_
      have c1 : (i : Int) < (r.length : Int) := by omega
      have c2 : (namedL r u i).length < 2932031007402 := by rw [namedL_len]; omega
      have c3 := w64s i (by omega)
      simp only [c1, if_true]
      refine Ev.bind (impl_names hs hil) (Ev.bind (impl_renS hs q1.1 q1.2) ?_)
      have e : namedL r u i ++ [(⟨I (rnS r u (nm r u i)).1, I (rnS r u (nm r u i)).2⟩ : S33)] = namedL r u (i + 1) := by
        unfold namedL
        rw [List.range_succ, List.map_append]
        rfl
      simp only [c2, c3, e, if_true]
      exact ih (i + 1) (by omega)
  exact H r.length 0 (Nat.zero_add _)
theorem impl_canon {r u : List Nat} (hs : Sf r u) : Ev (fun k => impl_CanonOf.f k (I r) (I u)) (I (canS r u).1, I (canS r u).2, true) := by
  have hle := hs.le
  have heq := hs.eq
  have hpos := hs.pos
  unfold impl_CanonOf.f
  refine Ev.bind (impl_named hs) ?_
  have c0 : ¬ ((r.length : Int) = 0) := by omega
  simp only [namedL_len, c0, if_false]
  refine Ev.bind (a := (I (canS r u).1, I (canS r u).2)) ?_ (Ev.now _)
  unfold impl_Surface_59.f
  have c1 : ¬ ((r.length : Int) < 1) := by omega
  have c2 : (0 : Int) < (r.length : Int) := by omega
  have e0 : rd_T33 (namedL r u r.length) 0 = ⟨I (canK r u 0).1, I (canK r u 0).2⟩ := rd_named hpos
  simp only [namedL_len, c1, c2, e0, if_true, if_false]
  have H : ∀ d i : Nat, i + 1 + d = r.length → Ev (fun k => impl_Surface_59.l0 k (namedL r u r.length) ((i + 1 : Nat) : Int) (I (canK r u i).1) (I (canK r u i).2)) (I (canS r u).1, I (canS r u).2) := by
    intro d
    induction d with
    | zero =>
      intro i hi
      refine ev_succ ?_
      have c1 : ¬ (((i + 1 : Nat) : Int) < (r.length : Int)) := by omega
      have e : canS r u = canK r u i := by
        unfold canS
        congr 1
        omega
      rw [e]
      simp only [impl_Surface_59.l0, c1, namedL_len, if_false]
      exact Ev.now _
    | succ d ih =>
      intro i hi
      have hi1 : i + 1 < r.length := by omega
      have c1 : ((i + 1 : Nat) : Int) < (r.length : Int) := by omega
      have c2 : (0 : Int) ≤ ((i + 1 : Nat) : Int) := by omega
      have c4 : rd_T33 (namedL r u r.length) ((i + 1 : Nat) : Int) = ⟨I (rS r u (i + 1)).1, I (rS r u (i + 1)).2⟩ := rd_named hi1
      have c3 := w64s (i + 1) (by omega)
      have lr := rS_len (r := r) (u := u) (i + 1)
      refine ev_succ ?_
      simp only [impl_Surface_59.l0, c1, c2, c3, c4, namedL_len, if_true]
      refine Ev.bind (impl_cmpS (rS r u (i + 1)) (canK r u i) (by rw [lr.1]; omega) (by rw [lr.2]; omega)) ?_
      have key := ih (i + 1) (by omega)
      unfold canK at key
      by_cases h : cmpS (rS r u (i + 1)) (canK r u i) < 0
      · rw [if_pos h] at key
        simp only [h, if_true]
        exact key
      · rw [if_neg h] at key
        simp only [h, if_false]
        exact key
  exact H (r.length - 1) 0 (by omega)
theorem impl_canon_no {r u : List Int} (h : ¬ surfB r u = true) : Ev (fun k => impl_CanonOf.f k r u) ([], [], false) := by
  have h' := Bool.eq_false_iff.mpr h
  unfold impl_CanonOf.f
  refine Ev.bind (a := ([] : List S33)) ?_ ?_
  · unfold impl_namedFrom.f
    refine ev_succ ?_
    simp only [impl_namedFrom.l0]
    refine Ev.bind (a := (0 : Int)) ?_ ?_
    · unfold impl_CountSquares.f
      refine Ev.bind (impl_surf _ _) ?_
      simp only [h', Bool.false_eq_true, if_false]
      exact Ev.now _
    · have c1 : ¬ ((0 : Int) < 0) := by omega
      simp only [c1, if_false]
      exact Ev.now _
  · simp only [List.length_nil]
    exact Ev.now _
theorem equal_ev (a b : List Nat) (h : a.length ≤ 1000000000) : Ev (fun k => impl_SameList.f k (I a) (I b)) (decide (a = b)) := by
  unfold impl_SameList.f slices_Equal_int_int.f
  refine Ev.bind (a := decide (a = b)) ?_ (Ev.now _)
  by_cases hl : (a.length : Int) = (b.length : Int)
  · have hl' : a.length = b.length := by omega
    simp only [I_len', hl, if_true]
    have H : ∀ d i : Nat, i + d = a.length → Ev (fun k => slices_Equal_int_int.l0 k (I a) (I b) (b.length : Int) (i : Int)) (decide (a.drop i = b.drop i)) := by
      intro d
      induction d with
      | zero =>
        intro i hi
        refine ev_succ ?_
        have c1 : ¬ ((i : Int) < (b.length : Int)) := by omega
        have e : decide (a.drop i = b.drop i) = true := by rw [List.drop_of_length_le (by omega), List.drop_of_length_le (by omega)]; simp
        simp only [slices_Equal_int_int.l0, c1, if_false, e]
        exact Ev.now _
      | succ d ih =>
        intro i hi
        have hia : i < a.length := by omega
        have hib : i < b.length := by omega
        rw [List.drop_eq_getElem_cons hia, ← g_get hia, List.drop_eq_getElem_cons hib, ← g_get hib]
        have c1 : (i : Int) < (b.length : Int) := by omega
        have c2 : (0 : Int) ≤ (i : Int) := by omega
        have c4 : (i : Int) < (a.length : Int) := by omega
        have c3 := w64s i (by omega)
        refine ev_succ ?_
        by_cases he : g a i = g b i
        · have z : ((g a i : Nat) : Int) = ((g b i : Nat) : Int) := by omega
          have e : decide (g a i :: a.drop (i + 1) = g b i :: b.drop (i + 1)) = decide (a.drop (i + 1) = b.drop (i + 1)) := by simp [he]
          rw [e]
          simp only [slices_Equal_int_int.l0, c1, c2, c3, c4, I_len', rdI, z, if_true]
          exact ih (i + 1) (by omega)
        · have z : ¬ (((g a i : Nat) : Int) = ((g b i : Nat) : Int)) := by omega
          have e : decide (g a i :: a.drop (i + 1) = g b i :: b.drop (i + 1)) = false := by simp [he]
          rw [e]
          simp only [slices_Equal_int_int.l0, c1, c2, c4, I_len', rdI, z, if_true, if_false]
          exact Ev.now _
    have key := H a.length 0 (Nat.zero_add _)
    rw [List.drop_zero, List.drop_zero] at key
    exact key
  · have e : decide (a = b) = false := by
      rw [decide_eq_false_iff_not]
      intro e
      rw [e] at hl
      exact hl rfl
    simp only [I_len', hl, if_false, e]
    exact Ev.now _
end Go.Proofs.Ytoijcallajegfaa.M
end
section
/- The order of surfaces. No conditions. -/
namespace Go.Proofs.Ytoijcallajegfaa.M
set_option linter.unusedVariables false
set_option linter.unusedSimpArgs false
open Go.RowKit Go.Proofs.YtoijcallajegfaaW.PrintWords Go.Proofs.YtoijcallajegfaaW.PrintLast Go.Proofs.YtoijcallajegfaaW.PrintMore Go.Proofs.Ytoijcallajegfaa.A
theorem lexC_neg : ∀ (a b : List Nat), lexC b a = - lexC a b := by
  intro a
  induction a with
  | nil => intro b; cases b <;> simp [lexC]
  | cons x a ih =>
    intro b
    cases b with
    | nil => simp [lexC]
    | cons y b =>
      unfold lexC
      by_cases h1 : x < y
      · have h2 : ¬ y < x := by omega
        simp [h1, h2]
      · by_cases h2 : y < x
        · simp [h1, h2]
        · simp [h1, h2, ih]
theorem lexC_tr : ∀ (a b c : List Nat), lexC a b < 0 → lexC b c < 0 → lexC a c < 0 := by
  intro a
  induction a with
  | nil =>
    intro b c h1 h2
    cases c with
    | nil => cases b <;> simp [lexC] at h1 h2
    | cons z c => simp [lexC]
  | cons x a ih =>
    intro b c h1 h2
    cases b with
    | nil => simp [lexC] at h1
    | cons y b =>
      cases c with
      | nil => simp [lexC] at h2
      | cons z c =>
        unfold lexC at h1 h2 ⊢
        by_cases p1 : x < y
        · by_cases p2 : y < z
          · have : x < z := by omega
            simp [this]
          · by_cases p3 : z < y
            · simp [p2, p3] at h2
            · have : x < z := by omega
              simp [this]
        · by_cases q1 : y < x
          · simp [p1, q1] at h1
          · have e : x = y := by omega
            subst e
            by_cases p2 : x < z
            · simp [p2]
            · by_cases p3 : z < x
              · simp [p2, p3] at h2
              · simp only [p2, p3, if_false] at h2 ⊢
                simp only [p1, q1, if_false] at h1
                exact ih b c h1 h2
theorem cmpS_eq (a b : List Nat × List Nat) : cmpS a b = 0 ↔ a = b := by
  unfold cmpS
  by_cases h : lexC a.1 b.1 = 0
  · rw [if_pos h]
    have e := (lexC_eq _ _).1 h
    constructor
    · intro h2
      exact Prod.ext e ((lexC_eq _ _).1 h2)
    · intro h2
      rw [h2]
      exact (lexC_eq _ _).2 rfl
  · rw [if_neg h]
    constructor
    · intro h2; exact absurd h2 h
    · intro h2
      rw [h2] at h
      exact absurd ((lexC_eq _ _).2 rfl) h
theorem cmpS_neg (a b : List Nat × List Nat) : cmpS b a = - cmpS a b := by
  unfold cmpS
  have h1 := lexC_neg a.1 b.1
  have h2 := lexC_neg a.2 b.2
  by_cases h : lexC a.1 b.1 = 0
  · have h' : lexC b.1 a.1 = 0 := by omega
    rw [if_pos h, if_pos h', h2]
  · have h' : ¬ lexC b.1 a.1 = 0 := by omega
    rw [if_neg h, if_neg h', h1]
theorem cmpS_tr (a b c : List Nat × List Nat) (h1 : cmpS a b < 0) (h2 : cmpS b c < 0) : cmpS a c < 0 := by
  unfold cmpS at *
  by_cases p : lexC a.1 b.1 = 0
  · rw [if_pos p] at h1
    have e := (lexC_eq _ _).1 p
    rw [e]
    by_cases q : lexC b.1 c.1 = 0
    · rw [if_pos q] at h2 ⊢
      exact lexC_tr _ _ _ h1 h2
    · rw [if_neg q] at h2 ⊢
      exact h2
  · rw [if_neg p] at h1
    by_cases q : lexC b.1 c.1 = 0
    · rw [if_pos q] at h2
      have e := (lexC_eq _ _).1 q
      rw [← e, if_neg p]
      exact h1
    · rw [if_neg q] at h2
      have := lexC_tr _ _ _ h1 h2
      rw [if_neg (by omega)]
      exact this
theorem cmpS_le_tr (a b c : List Nat × List Nat) (h1 : ¬ cmpS a b < 0) (h2 : ¬ cmpS b c < 0) : ¬ cmpS a c < 0 := by
  intro h3
  have n1 := cmpS_neg a b
  have n2 := cmpS_neg b c
  have n3 := cmpS_neg a c
  by_cases e1 : cmpS a b = 0
  · rw [(cmpS_eq _ _).1 e1] at h3; exact h2 h3
  · by_cases e2 : cmpS b c = 0
    · rw [← (cmpS_eq _ _).1 e2] at h3; exact h1 h3
    · have := cmpS_tr c b a (by omega) (by omega)
      omega
theorem lexC_le_tr (a b c : List Nat) (h1 : ¬ lexC a b < 0) (h2 : ¬ lexC b c < 0) : ¬ lexC a c < 0 := by
  intro h3
  have n1 := lexC_neg a b
  have n2 := lexC_neg b c
  have n3 := lexC_neg a c
  by_cases e1 : lexC a b = 0
  · rw [(lexC_eq _ _).1 e1] at h3; exact h2 h3
  · by_cases e2 : lexC b c = 0
    · rw [← (lexC_eq _ _).1 e2] at h3; exact h1 h3
    · have := lexC_tr c b a (by omega) (by omega)
      omega
end Go.Proofs.Ytoijcallajegfaa.M
end
section
/- A list of surfaces sorted, each once. No conditions. -/
namespace Go.Proofs.Ytoijcallajegfaa.M
set_option linter.unusedVariables false
set_option linter.unusedSimpArgs false
open Go.RowKit Go.Proofs.YtoijcallajegfaaW.PrintWords Go.Proofs.YtoijcallajegfaaW.PrintLast Go.Proofs.YtoijcallajegfaaW.PrintMore Go.Proofs.Ytoijcallajegfaa.A
def toN (x : S33) : List Nat × List Nat := (x.f0.map Int.toNat, x.f1.map Int.toNat)
def ofN (p : List Nat × List Nat) : S33 := ⟨I p.1, I p.2⟩
theorem toN_ofN (p : List Nat × List Nat) : toN (ofN p) = p := by
  have h : ∀ l : List Nat, (I l).map Int.toNat = l := fun l => by simp [I, List.map_map, Function.comp_def]
  exact Prod.ext (h p.1) (h p.2)
def NN (l : List Int) : Prop := (∀ a ∈ l, 0 ≤ a) ∧ l.length ≤ 1000000
instance (l : List Int) : Decidable (NN l) := inferInstanceAs (Decidable (_ ∧ _))
theorem NN_I {l : List Int} (h : NN l) : I (l.map Int.toNat) = l := by
  unfold I
  rw [List.map_map]
  conv => rhs; rw [← List.map_id l]
  apply List.map_congr_left
  intro x hx
  have := h.1 x hx
  exact Int.toNat_of_nonneg this
theorem I_NN {l : List Nat} (h : l.length ≤ 1000000) : NN (I l) := by
  refine ⟨fun a ha => ?_, by simpa [I] using h⟩
  obtain ⟨n, _, rfl⟩ := List.mem_map.1 ha
  exact Int.natCast_nonneg n
def okS (x : S33) : Prop := NN x.f0 ∧ NN x.f1
instance (x : S33) : Decidable (okS x) := inferInstanceAs (Decidable (_ ∧ _))
theorem okS_of {x : S33} (h : okS x) : ofN (toN x) = x := by
  show (⟨I (x.f0.map Int.toNat), I (x.f1.map Int.toNat)⟩ : S33) = x
  rw [NN_I h.1, NN_I h.2]
def sortS (l : List (List Nat × List Nat)) : List (List Nat × List Nat) := cpt (fun a b => decide (a = b)) (l.mergeSort (fun a b => decide (¬ cmpS b a < 0)))
theorem sort_uniq {l l' : List (List Nat × List Nat)} (hp : l'.Perm l) (hs : l'.Pairwise (fun a b => ¬ cmpS b a < 0)) : l' = l.mergeSort (fun a b => decide (¬ cmpS b a < 0)) := by
  refine List.Perm.eq_of_pairwise (le := fun a b => ¬ cmpS b a < 0) ?_ hs ?_ (hp.trans (List.mergeSort_perm l _).symm)
  · intro a b _ _ h1 h2
    have := cmpS_neg a b
    exact (cmpS_eq _ _).1 (by omega)
  · have := List.pairwise_mergeSort (le := fun a b => decide (¬ cmpS b a < 0)) (fun a b c h1 h2 => decide_eq_true (cmpS_le_tr c b a (of_decide_eq_true h2) (of_decide_eq_true h1))) (fun a b => by
      have := cmpS_neg a b
      simp only [Bool.or_eq_true, decide_eq_true_eq]
      omega) l
    exact this.imp (fun h => of_decide_eq_true h)
end Go.Proofs.Ytoijcallajegfaa.M
end
section
/- What comparing two surfaces leaves behind. No conditions. -/
namespace Go.Proofs.Ytoijcallajegfaa.M
set_option linter.unusedVariables false
set_option linter.unusedSimpArgs false
open Go Go.RowKit Go.Proofs.YtoijcallajegfaaW.PrintWords Go.Proofs.YtoijcallajegfaaW.PrintLast Go.Proofs.YtoijcallajegfaaW.PrintMore Go.Proofs.Ytoijcallajegfaa.A Go.Sort
def Ex (W w' : World) : Prop := ∃ q os', w' = grow (W.drewN q) os'
theorem Ex.refl (W : World) : Ex W W := ⟨0, #[], by rw [grow_empty]; rfl⟩
theorem Ex.alloc {W w' : World} (h : Ex W w') (o : Obj) : Ex W (w'.alloc o) := by
  obtain ⟨q, os, rfl⟩ := h
  exact ⟨q, os ++ #[o], by rw [alloc_eq_grow, grow_grow]⟩
theorem Ex.drewN {W w' : World} (h : Ex W w') (n : Nat) : Ex W (w'.drewN n) := by
  obtain ⟨q, os, rfl⟩ := h
  exact ⟨q + n, os, by rw [← World.drewN_drewN]; rfl⟩
theorem Ex.drew {W w' : World} (h : Ex W w') : Ex W w'.drew := h.drewN 1
theorem Ex.below {W w' : World} (h : Ex W w') : Go.RowKit.Below W.heap.size W w' := by
  obtain ⟨q, os, rfl⟩ := h
  refine ⟨rfl, rfl, rfl, ?_, fun k hk => ?_⟩
  · show W.heap.size ≤ (W.heap ++ os).size
    simp
  · show (W.heap ++ os)[k]? = _
    rw [Array.getElem?_append_left hk]
set_option maxHeartbeats 4000000 in
set_option maxRecDepth 100000 in
theorem cmp_exact (W : World) (x y : S33) (cx cy : List Value) (hx : okS x) (hy : okS y) (h1 : k33.K W x cx) (h2 : k33.K W y cy) :
    Calls Try.prog 60 #[.agg cx.toArray, .agg cy.toArray] W fun e w' => e = .returned (.int .i64 (cmpS (toN x) (toN y))) ∧ ∃ q os', w' = grow (W.drewN q) os' := by
  obtain ⟨A0, c0, A1, c1, rfl, l0, g0, l1, g1⟩ := k33_open h1
  obtain ⟨B0, d0, B1, d1, rfl, m0, e0, m1, e1⟩ := k33_open h2
  obtain ⟨ka, hka⟩ := compare_ev (toN x).1 (toN y).1 (by have := hx.1.2; simpa [toN] using this)
  obtain ⟨kb, hkb⟩ := compare_ev (toN x).2 (toN y).2 (by have := hx.2.2; simpa [toN] using this)
  have ha := hka ka (Nat.le_refl _)
  have hb := hkb kb (Nat.le_refl _)
  have ix0 : I (toN x).1 = x.f0 := NN_I hx.1
  have ix1 : I (toN x).2 = x.f1 := NN_I hx.2
  have iy0 : I (toN y).1 = y.f0 := NN_I hy.1
  have iy1 : I (toN y).2 = y.f1 := NN_I hy.2
  rw [ix0, iy0] at ha
  rw [ix1, iy1] at hb
  have HA : Aside (∀ w', Ex W w' → Calls Try.prog 54 #[.slice A0 x.f0.length c0, .slice B0 y.f0.length d0] w' fun e w2 => e = .returned (.int .i64 (lexC (toN x).1 (toN y).1)) ∧ ∃ n, w2 = w'.drewN n) := fun w' hw => (slices_Compare_int_int.calls ka A0 c0 x.f0 B0 d0 y.f0 _ w' (Kd.C_below g0 hw.below) l0 (Kd.C_below e0 hw.below) m0 ha).mono fun _ _ h => ⟨h.1, by obtain ⟨n, rfl⟩ := h.2; exact ⟨n, rfl⟩⟩
  have HB : Aside (∀ w', Ex W w' → Calls Try.prog 54 #[.slice A1 x.f1.length c1, .slice B1 y.f1.length d1] w' fun e w2 => e = .returned (.int .i64 (lexC (toN x).2 (toN y).2)) ∧ ∃ n, w2 = w'.drewN n) := fun w' hw => (slices_Compare_int_int.calls kb A1 c1 x.f1 B1 d1 y.f1 _ w' (Kd.C_below g1 hw.below) l1 (Kd.C_below e1 hw.below) m1 hb).mono fun _ _ h => ⟨h.1, by obtain ⟨n, rfl⟩ := h.2; exact ⟨n, rfl⟩⟩
  clear ha hb hka hkb ix0 ix1 iy0 iy1 g0 g1 e0 e1 l0 l1 m0 m1 hx hy h1 h2
  have hu := Try.underlying33
  unfold cmpS
  generalize lexC (toN x).1 (toN y).1 = ra at HA ⊢
  generalize lexC (toN x).2 (toN y).2 = rb at HB ⊢
  generalize x.f0.length = n0 at HA ⊢
  generalize x.f1.length = n1 at HB ⊢
  generalize y.f0.length = n2 at HA ⊢
  generalize y.f1.length = n3 at HB ⊢
  go_enter Try.func60, Try.ntmps60
  by_cases hr : ra = 0
  · subst hr
    have hr1 : ((0 : Int) != 0) = false := rfl
    go_wp2_with (first | (go_at_call 54; (with_reducible refine (HA.out _ ?side).mono ?_); (case side => repeat (first | (with_reducible exact Ex.refl _) | with_reducible apply Ex.alloc | with_reducible apply Ex.drewN | with_reducible apply Ex.drew)); rintro e w' ⟨rfl, n, rfl⟩) | (go_at_call 54; (with_reducible refine (HB.out _ ?side).mono ?_); (case side => repeat (first | (with_reducible exact Ex.refl _) | with_reducible apply Ex.alloc | with_reducible apply Ex.drewN | with_reducible apply Ex.drew)); rintro e w' ⟨rfl, n, rfl⟩))
    go_ret
    exact ⟨rfl, by show Ex W _; repeat (first | (with_reducible exact Ex.refl _) | with_reducible apply Ex.alloc | with_reducible apply Ex.drewN | with_reducible apply Ex.drew)⟩
  · have hr1 : (ra != 0) = true := bne_iff_ne.mpr hr
    have hr2 : (ra == 0) = false := beq_eq_false_iff_ne.mpr hr
    go_wp2_with (first | (go_at_call 54; (with_reducible refine (HA.out _ ?side).mono ?_); (case side => repeat (first | (with_reducible exact Ex.refl _) | with_reducible apply Ex.alloc | with_reducible apply Ex.drewN | with_reducible apply Ex.drew)); rintro e w' ⟨rfl, n, rfl⟩) | (go_at_call 54; (with_reducible refine (HB.out _ ?side).mono ?_); (case side => repeat (first | (with_reducible exact Ex.refl _) | with_reducible apply Ex.alloc | with_reducible apply Ex.drewN | with_reducible apply Ex.drew)); rintro e w' ⟨rfl, n, rfl⟩))
    go_ret
    exact ⟨rfl, by show Ex W _; repeat (first | (with_reducible exact Ex.refl _) | with_reducible apply Ex.alloc | with_reducible apply Ex.drewN | with_reducible apply Ex.drew)⟩
set_option maxHeartbeats 4000000 in
set_option maxRecDepth 100000 in
theorem same_exact (W : World) (x y : S33) (cx cy : List Value) (hx : okS x) (hy : okS y) (h1 : k33.K W x cx) (h2 : k33.K W y cy) :
    Calls Try.prog 18 #[.agg cx.toArray, .agg cy.toArray] W fun e w' => e = .returned (.bool (decide (toN x = toN y))) ∧ ∃ q os', w' = grow (W.drewN q) os' := by
  obtain ⟨A0, c0, A1, c1, rfl, l0, g0, l1, g1⟩ := k33_open h1
  obtain ⟨B0, d0, B1, d1, rfl, m0, e0, m1, e1⟩ := k33_open h2
  obtain ⟨ka, hka⟩ := equal_ev (toN x).1 (toN y).1 (by have := hx.1.2; simp [toN]; omega)
  obtain ⟨kb, hkb⟩ := equal_ev (toN x).2 (toN y).2 (by have := hx.2.2; simp [toN]; omega)
  have ha := hka ka (Nat.le_refl _)
  have hb := hkb kb (Nat.le_refl _)
  have ix0 : I (toN x).1 = x.f0 := NN_I hx.1
  have ix1 : I (toN x).2 = x.f1 := NN_I hx.2
  have iy0 : I (toN y).1 = y.f0 := NN_I hy.1
  have iy1 : I (toN y).2 = y.f1 := NN_I hy.2
  rw [ix0, iy0] at ha
  rw [ix1, iy1] at hb
  have hd : decide (toN x = toN y) = (if decide ((toN x).1 = (toN y).1) = true then decide ((toN x).2 = (toN y).2) else false) := by
    by_cases p : (toN x).1 = (toN y).1
    · by_cases q : (toN x).2 = (toN y).2
      · have e : toN x = toN y := Prod.ext p q
        simp [e]
      · have e : toN x ≠ toN y := fun e => q (by rw [e])
        simp [e, p, q]
    · have e : toN x ≠ toN y := fun e => p (by rw [e])
      simp [e, p]
  rw [hd]
  generalize decide ((toN x).1 = (toN y).1) = ra at ha ⊢
  generalize decide ((toN x).2 = (toN y).2) = rb at hb ⊢
  have HA : Aside (∀ w', Ex W w' → Calls Try.prog 56 #[.slice A0 x.f0.length c0, .slice B0 y.f0.length d0] w' fun e w2 => e = .returned (.bool ra) ∧ ∃ n, w2 = w'.drewN n) := fun w' hw => (impl_SameList.calls ka A0 c0 x.f0 B0 d0 y.f0 _ w' (Kd.C_below g0 hw.below) l0 (Kd.C_below e0 hw.below) m0 ha).mono fun _ _ h => ⟨h.1, by obtain ⟨n, rfl⟩ := h.2; exact ⟨n, rfl⟩⟩
  have HB : Aside (∀ w', Ex W w' → Calls Try.prog 56 #[.slice A1 x.f1.length c1, .slice B1 y.f1.length d1] w' fun e w2 => e = .returned (.bool rb) ∧ ∃ n, w2 = w'.drewN n) := fun w' hw => (impl_SameList.calls kb A1 c1 x.f1 B1 d1 y.f1 _ w' (Kd.C_below g1 hw.below) l1 (Kd.C_below e1 hw.below) m1 hb).mono fun _ _ h => ⟨h.1, by obtain ⟨n, rfl⟩ := h.2; exact ⟨n, rfl⟩⟩
  clear ha hb hka hkb ix0 ix1 iy0 iy1 g0 g1 e0 e1 l0 l1 m0 m1 hx hy h1 h2 hd
  have hu := Try.underlying33
  generalize x.f0.length = n0 at HA ⊢
  generalize x.f1.length = n1 at HB ⊢
  generalize y.f0.length = n2 at HA ⊢
  generalize y.f1.length = n3 at HB ⊢
  go_enter Try.func18, Try.ntmps18
  cases ra with
  | true =>
    go_wp2_with (first | (go_at_call 56; (with_reducible refine (HA.out _ ?side).mono ?_); (case side => repeat (first | (with_reducible exact Ex.refl _) | with_reducible apply Ex.alloc | with_reducible apply Ex.drewN | with_reducible apply Ex.drew)); rintro e w' ⟨rfl, n, rfl⟩) | (go_at_call 56; (with_reducible refine (HB.out _ ?side).mono ?_); (case side => repeat (first | (with_reducible exact Ex.refl _) | with_reducible apply Ex.alloc | with_reducible apply Ex.drewN | with_reducible apply Ex.drew)); rintro e w' ⟨rfl, n, rfl⟩))
    go_ret
    exact ⟨rfl, by show Ex W _; repeat (first | (with_reducible exact Ex.refl _) | with_reducible apply Ex.alloc | with_reducible apply Ex.drewN | with_reducible apply Ex.drew)⟩
  | false =>
    go_wp2_with (first | (go_at_call 56; (with_reducible refine (HA.out _ ?side).mono ?_); (case side => repeat (first | (with_reducible exact Ex.refl _) | with_reducible apply Ex.alloc | with_reducible apply Ex.drewN | with_reducible apply Ex.drew)); rintro e w' ⟨rfl, n, rfl⟩) | (go_at_call 56; (with_reducible refine (HB.out _ ?side).mono ?_); (case side => repeat (first | (with_reducible exact Ex.refl _) | with_reducible apply Ex.alloc | with_reducible apply Ex.drewN | with_reducible apply Ex.drew)); rintro e w' ⟨rfl, n, rfl⟩))
    go_ret
    exact ⟨rfl, by show Ex W _; repeat (first | (with_reducible exact Ex.refl _) | with_reducible apply Ex.alloc | with_reducible apply Ex.drewN | with_reducible apply Ex.drew)⟩
end Go.Proofs.Ytoijcallajegfaa.M
end
section
/- What the library's sort asks of this program: each by the kernel. No conditions. -/
namespace Go.Proofs
open Go.Shelf
def Try.sortA52_ren : Go.Shelf.Ren := ⟨fun | 6 => 52 | 15 => 104 | 14 => 103 | 28 => 147 | 29 => 148 | 20 => 139 | 21 => 140 | 22 => 141 | 23 => 142 | 24 => 143 | 25 => 144 | 26 => 145 | 27 => 146 | 46 => 178 | 47 => 179 | 48 => 180 | 49 => 181 | 50 => 182 | 57 => 192 | n => n, fun | 22 => 28 | 24 => 23 | 25 => 64 | 3 => 3 | 39 => 103 | 0 => 0 | 53 => 134 | 55 => 136 | 4 => 4 | 46 => 127 | 45 => 126 | 50 => 131 | 5 => 5 | 9 => 9 | 66 => 149 | 70 => 153 | 76 => 160 | 77 => 161 | n => n, fun | n => n⟩
theorem Try.sortA52 : Go.Proofs.SlLaysF.n6 Try.prog Try.sortA52_ren := {
  mixed := by kernel_rfl
  f6 := ⟨Try.f52.name, by decide, Try.func52.trans (congrArg some (by kernel_rfl))⟩
  f14 := ⟨Try.f103.name, by decide, Try.func103.trans (congrArg some (by kernel_rfl))⟩
  f15 := Try.func104.trans (congrArg some (by kernel_rfl))
  f20 := ⟨Try.f139.name, by decide, Try.func139.trans (congrArg some (by kernel_rfl))⟩
  f21 := ⟨Try.f140.name, by decide, Try.func140.trans (congrArg some (by kernel_rfl))⟩
  f22 := ⟨Try.f141.name, by decide, Try.func141.trans (congrArg some (by kernel_rfl))⟩
  f23 := ⟨Try.f142.name, by decide, Try.func142.trans (congrArg some (by kernel_rfl))⟩
  f24 := ⟨Try.f143.name, by decide, Try.func143.trans (congrArg some (by kernel_rfl))⟩
  f25 := ⟨Try.f144.name, by decide, Try.func144.trans (congrArg some (by kernel_rfl))⟩
  f26 := ⟨Try.f145.name, by decide, Try.func145.trans (congrArg some (by kernel_rfl))⟩
  f27 := ⟨Try.f146.name, by decide, Try.func146.trans (congrArg some (by kernel_rfl))⟩
  f28 := Try.func147.trans (congrArg some (by kernel_rfl))
  f29 := Try.func148.trans (congrArg some (by kernel_rfl))
  f46 := ⟨Try.f178.name, by decide, Try.func178.trans (congrArg some (by kernel_rfl))⟩
  f47 := Try.func179.trans (congrArg some (by kernel_rfl))
  f48 := Try.func180.trans (congrArg some (by kernel_rfl))
  f49 := ⟨Try.f181.name, by decide, Try.func181.trans (congrArg some (by kernel_rfl))⟩
  f50 := ⟨Try.f182.name, by decide, Try.func182.trans (congrArg some (by kernel_rfl))⟩
  f57 := ⟨Try.f192.name, by decide, Try.func192.trans (congrArg some (by kernel_rfl))⟩
  t0 := Try.underlying0
  a0 := Try.isAgg0
  z0 := Try.sizeOf0
  v0 := Try.zeroValue0
  t3 := Try.underlying3
  a3 := Try.isAgg3
  z3 := Try.sizeOf3
  v3 := Try.zeroValue3
  t4 := Try.underlying4
  a4 := Try.isAgg4
  z4 := Try.sizeOf4
  v4 := Try.zeroValue4
  t5 := Try.underlying5
  a5 := Try.isAgg5
  z5 := Try.sizeOf5
  v5 := Try.zeroValue5
  t9 := Try.underlying9
  a9 := Try.isAgg9
  z9 := Try.sizeOf9
  v9 := Try.zeroValue9
  t22 := Try.underlying28
  a22 := Try.isAgg28
  z22 := Try.sizeOf28
  v22 := Try.zeroValue28
  a24 := Try.isAgg23
  z24 := Try.sizeOf23
  t25 := Try.underlying64
  a25 := Try.isAgg64
  z25 := Try.sizeOf64
  v25 := Try.zeroValue64
  t39 := Try.underlying103
  a39 := Try.isAgg103
  z39 := Try.sizeOf103
  v39 := Try.zeroValue103
  t45 := Try.underlying126
  a45 := Try.isAgg126
  z45 := Try.sizeOf126
  v45 := Try.zeroValue126
  t46 := Try.underlying127
  a46 := Try.isAgg127
  z46 := Try.sizeOf127
  v46 := Try.zeroValue127
  t50 := Try.underlying131
  a50 := Try.isAgg131
  z50 := Try.sizeOf131
  v50 := Try.zeroValue131
  t53 := Try.underlying134
  a53 := Try.isAgg134
  z53 := Try.sizeOf134
  v53 := Try.zeroValue134
  t55 := Try.underlying136
  a55 := Try.isAgg136
  z55 := Try.sizeOf136
  v55 := Try.zeroValue136
  t66 := Try.underlying149
  a66 := Try.isAgg149
  z66 := Try.sizeOf149
  v66 := Try.zeroValue149
  t70 := Try.underlying153
  a70 := Try.isAgg153
  z70 := Try.sizeOf153
  v70 := Try.zeroValue153
  t76 := Try.underlying160
  a76 := Try.isAgg160
  z76 := Try.sizeOf160
  v76 := Try.zeroValue160
  t77 := Try.underlying161
  a77 := Try.isAgg161
  z77 := Try.sizeOf161
  v77 := Try.zeroValue161 }
def Try.sortB52_ren : Go.Shelf.Ren := ⟨fun | 6 => 52 | 15 => 104 | 14 => 103 | 28 => 147 | 29 => 148 | 20 => 139 | 21 => 140 | 22 => 141 | 23 => 142 | 24 => 143 | 25 => 144 | 26 => 145 | 27 => 146 | 46 => 178 | 47 => 179 | 48 => 180 | 49 => 181 | 50 => 182 | 57 => 192 | n => n, fun | 22 => 28 | 24 => 23 | 25 => 64 | 3 => 3 | 39 => 103 | 0 => 0 | 53 => 134 | 55 => 136 | 4 => 4 | 46 => 127 | 45 => 126 | 50 => 131 | 5 => 5 | 9 => 9 | 66 => 149 | 70 => 153 | 76 => 160 | 77 => 161 | n => n, fun | n => n⟩
theorem Try.sortB52 : Go.Proofs.SlLaysF0.n6 Try.prog Try.sortB52_ren := {
  mixed := by kernel_rfl
  f6 := ⟨Try.f52.name, by decide, Try.func52.trans (congrArg some (by kernel_rfl))⟩
  f14 := ⟨Try.f103.name, by decide, Try.func103.trans (congrArg some (by kernel_rfl))⟩
  f15 := Try.func104.trans (congrArg some (by kernel_rfl))
  f20 := ⟨Try.f139.name, by decide, Try.func139.trans (congrArg some (by kernel_rfl))⟩
  f21 := ⟨Try.f140.name, by decide, Try.func140.trans (congrArg some (by kernel_rfl))⟩
  f22 := ⟨Try.f141.name, by decide, Try.func141.trans (congrArg some (by kernel_rfl))⟩
  f23 := ⟨Try.f142.name, by decide, Try.func142.trans (congrArg some (by kernel_rfl))⟩
  f24 := ⟨Try.f143.name, by decide, Try.func143.trans (congrArg some (by kernel_rfl))⟩
  f25 := ⟨Try.f144.name, by decide, Try.func144.trans (congrArg some (by kernel_rfl))⟩
  f26 := ⟨Try.f145.name, by decide, Try.func145.trans (congrArg some (by kernel_rfl))⟩
  f27 := ⟨Try.f146.name, by decide, Try.func146.trans (congrArg some (by kernel_rfl))⟩
  f28 := Try.func147.trans (congrArg some (by kernel_rfl))
  f29 := Try.func148.trans (congrArg some (by kernel_rfl))
  f46 := ⟨Try.f178.name, by decide, Try.func178.trans (congrArg some (by kernel_rfl))⟩
  f47 := Try.func179.trans (congrArg some (by kernel_rfl))
  f48 := Try.func180.trans (congrArg some (by kernel_rfl))
  f49 := ⟨Try.f181.name, by decide, Try.func181.trans (congrArg some (by kernel_rfl))⟩
  f50 := ⟨Try.f182.name, by decide, Try.func182.trans (congrArg some (by kernel_rfl))⟩
  f57 := ⟨Try.f192.name, by decide, Try.func192.trans (congrArg some (by kernel_rfl))⟩
  t0 := Try.underlying0
  a0 := Try.isAgg0
  z0 := Try.sizeOf0
  v0 := Try.zeroValue0
  t3 := Try.underlying3
  a3 := Try.isAgg3
  z3 := Try.sizeOf3
  v3 := Try.zeroValue3
  t4 := Try.underlying4
  a4 := Try.isAgg4
  z4 := Try.sizeOf4
  v4 := Try.zeroValue4
  t5 := Try.underlying5
  a5 := Try.isAgg5
  z5 := Try.sizeOf5
  v5 := Try.zeroValue5
  t9 := Try.underlying9
  a9 := Try.isAgg9
  z9 := Try.sizeOf9
  v9 := Try.zeroValue9
  t22 := Try.underlying28
  a22 := Try.isAgg28
  z22 := Try.sizeOf28
  v22 := Try.zeroValue28
  t25 := Try.underlying64
  a25 := Try.isAgg64
  z25 := Try.sizeOf64
  v25 := Try.zeroValue64
  t39 := Try.underlying103
  a39 := Try.isAgg103
  z39 := Try.sizeOf103
  v39 := Try.zeroValue103
  t45 := Try.underlying126
  a45 := Try.isAgg126
  z45 := Try.sizeOf126
  v45 := Try.zeroValue126
  t46 := Try.underlying127
  a46 := Try.isAgg127
  z46 := Try.sizeOf127
  v46 := Try.zeroValue127
  t50 := Try.underlying131
  a50 := Try.isAgg131
  z50 := Try.sizeOf131
  v50 := Try.zeroValue131
  t53 := Try.underlying134
  a53 := Try.isAgg134
  z53 := Try.sizeOf134
  v53 := Try.zeroValue134
  t55 := Try.underlying136
  a55 := Try.isAgg136
  z55 := Try.sizeOf136
  v55 := Try.zeroValue136
  t66 := Try.underlying149
  a66 := Try.isAgg149
  z66 := Try.sizeOf149
  v66 := Try.zeroValue149
  t70 := Try.underlying153
  a70 := Try.isAgg153
  z70 := Try.sizeOf153
  v70 := Try.zeroValue153
  t76 := Try.underlying160
  a76 := Try.isAgg160
  z76 := Try.sizeOf160
  v76 := Try.zeroValue160
  t77 := Try.underlying161
  a77 := Try.isAgg161
  z77 := Try.sizeOf161
  v77 := Try.zeroValue161 }
def Try.sortA73_ren : Go.Shelf.Ren := ⟨fun | 6 => 73 | 15 => 104 | 14 => 121 | 28 => 147 | 29 => 148 | 20 => 153 | 21 => 154 | 22 => 155 | 23 => 156 | 24 => 157 | 25 => 158 | 26 => 159 | 27 => 160 | 46 => 184 | 47 => 179 | 48 => 180 | 49 => 185 | 50 => 186 | 57 => 193 | n => n, fun | 22 => 23 | 24 => 3 | 25 => 79 | 3 => 3 | 39 => 103 | 0 => 0 | 53 => 134 | 55 => 136 | 4 => 4 | 46 => 127 | 45 => 126 | 50 => 131 | 5 => 5 | 9 => 9 | 66 => 149 | 70 => 153 | 76 => 160 | 77 => 161 | n => n, fun | n => n⟩
theorem Try.sortA73 : Go.Proofs.SlLaysF.n6 Try.prog Try.sortA73_ren := {
  mixed := by kernel_rfl
  f6 := ⟨Try.f73.name, by decide, Try.func73.trans (congrArg some (by kernel_rfl))⟩
  f14 := ⟨Try.f121.name, by decide, Try.func121.trans (congrArg some (by kernel_rfl))⟩
  f15 := Try.func104.trans (congrArg some (by kernel_rfl))
  f20 := ⟨Try.f153.name, by decide, Try.func153.trans (congrArg some (by kernel_rfl))⟩
  f21 := ⟨Try.f154.name, by decide, Try.func154.trans (congrArg some (by kernel_rfl))⟩
  f22 := ⟨Try.f155.name, by decide, Try.func155.trans (congrArg some (by kernel_rfl))⟩
  f23 := ⟨Try.f156.name, by decide, Try.func156.trans (congrArg some (by kernel_rfl))⟩
  f24 := ⟨Try.f157.name, by decide, Try.func157.trans (congrArg some (by kernel_rfl))⟩
  f25 := ⟨Try.f158.name, by decide, Try.func158.trans (congrArg some (by kernel_rfl))⟩
  f26 := ⟨Try.f159.name, by decide, Try.func159.trans (congrArg some (by kernel_rfl))⟩
  f27 := ⟨Try.f160.name, by decide, Try.func160.trans (congrArg some (by kernel_rfl))⟩
  f28 := Try.func147.trans (congrArg some (by kernel_rfl))
  f29 := Try.func148.trans (congrArg some (by kernel_rfl))
  f46 := ⟨Try.f184.name, by decide, Try.func184.trans (congrArg some (by kernel_rfl))⟩
  f47 := Try.func179.trans (congrArg some (by kernel_rfl))
  f48 := Try.func180.trans (congrArg some (by kernel_rfl))
  f49 := ⟨Try.f185.name, by decide, Try.func185.trans (congrArg some (by kernel_rfl))⟩
  f50 := ⟨Try.f186.name, by decide, Try.func186.trans (congrArg some (by kernel_rfl))⟩
  f57 := ⟨Try.f193.name, by decide, Try.func193.trans (congrArg some (by kernel_rfl))⟩
  t0 := Try.underlying0
  a0 := Try.isAgg0
  z0 := Try.sizeOf0
  v0 := Try.zeroValue0
  t3 := Try.underlying3
  a3 := Try.isAgg3
  z3 := Try.sizeOf3
  v3 := Try.zeroValue3
  t4 := Try.underlying4
  a4 := Try.isAgg4
  z4 := Try.sizeOf4
  v4 := Try.zeroValue4
  t5 := Try.underlying5
  a5 := Try.isAgg5
  z5 := Try.sizeOf5
  v5 := Try.zeroValue5
  t9 := Try.underlying9
  a9 := Try.isAgg9
  z9 := Try.sizeOf9
  v9 := Try.zeroValue9
  t22 := Try.underlying23
  a22 := Try.isAgg23
  z22 := Try.sizeOf23
  v22 := Try.zeroValue23
  a24 := Try.isAgg3
  z24 := Try.sizeOf3
  t25 := Try.underlying79
  a25 := Try.isAgg79
  z25 := Try.sizeOf79
  v25 := Try.zeroValue79
  t39 := Try.underlying103
  a39 := Try.isAgg103
  z39 := Try.sizeOf103
  v39 := Try.zeroValue103
  t45 := Try.underlying126
  a45 := Try.isAgg126
  z45 := Try.sizeOf126
  v45 := Try.zeroValue126
  t46 := Try.underlying127
  a46 := Try.isAgg127
  z46 := Try.sizeOf127
  v46 := Try.zeroValue127
  t50 := Try.underlying131
  a50 := Try.isAgg131
  z50 := Try.sizeOf131
  v50 := Try.zeroValue131
  t53 := Try.underlying134
  a53 := Try.isAgg134
  z53 := Try.sizeOf134
  v53 := Try.zeroValue134
  t55 := Try.underlying136
  a55 := Try.isAgg136
  z55 := Try.sizeOf136
  v55 := Try.zeroValue136
  t66 := Try.underlying149
  a66 := Try.isAgg149
  z66 := Try.sizeOf149
  v66 := Try.zeroValue149
  t70 := Try.underlying153
  a70 := Try.isAgg153
  z70 := Try.sizeOf153
  v70 := Try.zeroValue153
  t76 := Try.underlying160
  a76 := Try.isAgg160
  z76 := Try.sizeOf160
  v76 := Try.zeroValue160
  t77 := Try.underlying161
  a77 := Try.isAgg161
  z77 := Try.sizeOf161
  v77 := Try.zeroValue161 }
def Try.sortB73_ren : Go.Shelf.Ren := ⟨fun | 6 => 73 | 15 => 104 | 14 => 121 | 28 => 147 | 29 => 148 | 20 => 153 | 21 => 154 | 22 => 155 | 23 => 156 | 24 => 157 | 25 => 158 | 26 => 159 | 27 => 160 | 46 => 184 | 47 => 179 | 48 => 180 | 49 => 185 | 50 => 186 | 57 => 193 | n => n, fun | 22 => 23 | 24 => 3 | 25 => 79 | 3 => 3 | 39 => 103 | 0 => 0 | 53 => 134 | 55 => 136 | 4 => 4 | 46 => 127 | 45 => 126 | 50 => 131 | 5 => 5 | 9 => 9 | 66 => 149 | 70 => 153 | 76 => 160 | 77 => 161 | n => n, fun | n => n⟩
theorem Try.sortB73 : Go.Proofs.SlLaysF0.n6 Try.prog Try.sortB73_ren := {
  mixed := by kernel_rfl
  f6 := ⟨Try.f73.name, by decide, Try.func73.trans (congrArg some (by kernel_rfl))⟩
  f14 := ⟨Try.f121.name, by decide, Try.func121.trans (congrArg some (by kernel_rfl))⟩
  f15 := Try.func104.trans (congrArg some (by kernel_rfl))
  f20 := ⟨Try.f153.name, by decide, Try.func153.trans (congrArg some (by kernel_rfl))⟩
  f21 := ⟨Try.f154.name, by decide, Try.func154.trans (congrArg some (by kernel_rfl))⟩
  f22 := ⟨Try.f155.name, by decide, Try.func155.trans (congrArg some (by kernel_rfl))⟩
  f23 := ⟨Try.f156.name, by decide, Try.func156.trans (congrArg some (by kernel_rfl))⟩
  f24 := ⟨Try.f157.name, by decide, Try.func157.trans (congrArg some (by kernel_rfl))⟩
  f25 := ⟨Try.f158.name, by decide, Try.func158.trans (congrArg some (by kernel_rfl))⟩
  f26 := ⟨Try.f159.name, by decide, Try.func159.trans (congrArg some (by kernel_rfl))⟩
  f27 := ⟨Try.f160.name, by decide, Try.func160.trans (congrArg some (by kernel_rfl))⟩
  f28 := Try.func147.trans (congrArg some (by kernel_rfl))
  f29 := Try.func148.trans (congrArg some (by kernel_rfl))
  f46 := ⟨Try.f184.name, by decide, Try.func184.trans (congrArg some (by kernel_rfl))⟩
  f47 := Try.func179.trans (congrArg some (by kernel_rfl))
  f48 := Try.func180.trans (congrArg some (by kernel_rfl))
  f49 := ⟨Try.f185.name, by decide, Try.func185.trans (congrArg some (by kernel_rfl))⟩
  f50 := ⟨Try.f186.name, by decide, Try.func186.trans (congrArg some (by kernel_rfl))⟩
  f57 := ⟨Try.f193.name, by decide, Try.func193.trans (congrArg some (by kernel_rfl))⟩
  t0 := Try.underlying0
  a0 := Try.isAgg0
  z0 := Try.sizeOf0
  v0 := Try.zeroValue0
  t3 := Try.underlying3
  a3 := Try.isAgg3
  z3 := Try.sizeOf3
  v3 := Try.zeroValue3
  t4 := Try.underlying4
  a4 := Try.isAgg4
  z4 := Try.sizeOf4
  v4 := Try.zeroValue4
  t5 := Try.underlying5
  a5 := Try.isAgg5
  z5 := Try.sizeOf5
  v5 := Try.zeroValue5
  t9 := Try.underlying9
  a9 := Try.isAgg9
  z9 := Try.sizeOf9
  v9 := Try.zeroValue9
  t22 := Try.underlying23
  a22 := Try.isAgg23
  z22 := Try.sizeOf23
  v22 := Try.zeroValue23
  t25 := Try.underlying79
  a25 := Try.isAgg79
  z25 := Try.sizeOf79
  v25 := Try.zeroValue79
  t39 := Try.underlying103
  a39 := Try.isAgg103
  z39 := Try.sizeOf103
  v39 := Try.zeroValue103
  t45 := Try.underlying126
  a45 := Try.isAgg126
  z45 := Try.sizeOf126
  v45 := Try.zeroValue126
  t46 := Try.underlying127
  a46 := Try.isAgg127
  z46 := Try.sizeOf127
  v46 := Try.zeroValue127
  t50 := Try.underlying131
  a50 := Try.isAgg131
  z50 := Try.sizeOf131
  v50 := Try.zeroValue131
  t53 := Try.underlying134
  a53 := Try.isAgg134
  z53 := Try.sizeOf134
  v53 := Try.zeroValue134
  t55 := Try.underlying136
  a55 := Try.isAgg136
  z55 := Try.sizeOf136
  v55 := Try.zeroValue136
  t66 := Try.underlying149
  a66 := Try.isAgg149
  z66 := Try.sizeOf149
  v66 := Try.zeroValue149
  t70 := Try.underlying153
  a70 := Try.isAgg153
  z70 := Try.sizeOf153
  v70 := Try.zeroValue153
  t76 := Try.underlying160
  a76 := Try.isAgg160
  z76 := Try.sizeOf160
  v76 := Try.zeroValue160
  t77 := Try.underlying161
  a77 := Try.isAgg161
  z77 := Try.sizeOf161
  v77 := Try.zeroValue161 }
def Try.sortB101_ren : Go.Shelf.Ren := ⟨fun | 6 => 101 | 15 => 104 | 14 => 138 | 28 => 147 | 29 => 148 | 20 => 170 | 21 => 171 | 22 => 172 | 23 => 173 | 24 => 174 | 25 => 175 | 26 => 176 | 27 => 177 | 46 => 189 | 47 => 179 | 48 => 180 | 49 => 190 | 50 => 191 | 57 => 197 | n => n, fun | 22 => 25 | 24 => 33 | 25 => 69 | 3 => 3 | 39 => 103 | 0 => 0 | 53 => 134 | 55 => 136 | 4 => 4 | 46 => 127 | 45 => 126 | 50 => 131 | 5 => 5 | 9 => 9 | 66 => 149 | 70 => 153 | 76 => 160 | 77 => 161 | n => n, fun | n => n⟩
theorem Try.sortB101 : Go.Proofs.SlLaysF0.n6 Try.prog Try.sortB101_ren := {
  mixed := by kernel_rfl
  f6 := ⟨Try.f101.name, by decide, Try.func101.trans (congrArg some (by kernel_rfl))⟩
  f14 := ⟨Try.f138.name, by decide, Try.func138.trans (congrArg some (by kernel_rfl))⟩
  f15 := Try.func104.trans (congrArg some (by kernel_rfl))
  f20 := ⟨Try.f170.name, by decide, Try.func170.trans (congrArg some (by kernel_rfl))⟩
  f21 := ⟨Try.f171.name, by decide, Try.func171.trans (congrArg some (by kernel_rfl))⟩
  f22 := ⟨Try.f172.name, by decide, Try.func172.trans (congrArg some (by kernel_rfl))⟩
  f23 := ⟨Try.f173.name, by decide, Try.func173.trans (congrArg some (by kernel_rfl))⟩
  f24 := ⟨Try.f174.name, by decide, Try.func174.trans (congrArg some (by kernel_rfl))⟩
  f25 := ⟨Try.f175.name, by decide, Try.func175.trans (congrArg some (by kernel_rfl))⟩
  f26 := ⟨Try.f176.name, by decide, Try.func176.trans (congrArg some (by kernel_rfl))⟩
  f27 := ⟨Try.f177.name, by decide, Try.func177.trans (congrArg some (by kernel_rfl))⟩
  f28 := Try.func147.trans (congrArg some (by kernel_rfl))
  f29 := Try.func148.trans (congrArg some (by kernel_rfl))
  f46 := ⟨Try.f189.name, by decide, Try.func189.trans (congrArg some (by kernel_rfl))⟩
  f47 := Try.func179.trans (congrArg some (by kernel_rfl))
  f48 := Try.func180.trans (congrArg some (by kernel_rfl))
  f49 := ⟨Try.f190.name, by decide, Try.func190.trans (congrArg some (by kernel_rfl))⟩
  f50 := ⟨Try.f191.name, by decide, Try.func191.trans (congrArg some (by kernel_rfl))⟩
  f57 := ⟨Try.f197.name, by decide, Try.func197.trans (congrArg some (by kernel_rfl))⟩
  t0 := Try.underlying0
  a0 := Try.isAgg0
  z0 := Try.sizeOf0
  v0 := Try.zeroValue0
  t3 := Try.underlying3
  a3 := Try.isAgg3
  z3 := Try.sizeOf3
  v3 := Try.zeroValue3
  t4 := Try.underlying4
  a4 := Try.isAgg4
  z4 := Try.sizeOf4
  v4 := Try.zeroValue4
  t5 := Try.underlying5
  a5 := Try.isAgg5
  z5 := Try.sizeOf5
  v5 := Try.zeroValue5
  t9 := Try.underlying9
  a9 := Try.isAgg9
  z9 := Try.sizeOf9
  v9 := Try.zeroValue9
  t22 := Try.underlying25
  a22 := Try.isAgg25
  z22 := Try.sizeOf25
  v22 := Try.zeroValue25
  t25 := Try.underlying69
  a25 := Try.isAgg69
  z25 := Try.sizeOf69
  v25 := Try.zeroValue69
  t39 := Try.underlying103
  a39 := Try.isAgg103
  z39 := Try.sizeOf103
  v39 := Try.zeroValue103
  t45 := Try.underlying126
  a45 := Try.isAgg126
  z45 := Try.sizeOf126
  v45 := Try.zeroValue126
  t46 := Try.underlying127
  a46 := Try.isAgg127
  z46 := Try.sizeOf127
  v46 := Try.zeroValue127
  t50 := Try.underlying131
  a50 := Try.isAgg131
  z50 := Try.sizeOf131
  v50 := Try.zeroValue131
  t53 := Try.underlying134
  a53 := Try.isAgg134
  z53 := Try.sizeOf134
  v53 := Try.zeroValue134
  t55 := Try.underlying136
  a55 := Try.isAgg136
  z55 := Try.sizeOf136
  v55 := Try.zeroValue136
  t66 := Try.underlying149
  a66 := Try.isAgg149
  z66 := Try.sizeOf149
  v66 := Try.zeroValue149
  t70 := Try.underlying153
  a70 := Try.isAgg153
  z70 := Try.sizeOf153
  v70 := Try.zeroValue153
  t76 := Try.underlying160
  a76 := Try.isAgg160
  z76 := Try.sizeOf160
  v76 := Try.zeroValue160
  t77 := Try.underlying161
  a77 := Try.isAgg161
  z77 := Try.sizeOf161
  v77 := Try.zeroValue161 }
end Go.Proofs
end
section
/- A list of surfaces of the call's own sorted and struck of doubles: what lies in memory. No conditions. -/
namespace Go.Proofs.Ytoijcallajegfaa.M
set_option linter.unusedVariables false
set_option linter.unusedSimpArgs false
open Go Go.RowKit Go.Proofs.YtoijcallajegfaaW.PrintWords Go.Proofs.YtoijcallajegfaaW.PrintLast Go.Proofs.YtoijcallajegfaaW.PrintMore Go.Proofs.Ytoijcallajegfaa.A Go.Sort Go.Shelf Go.Lib Go.Proofs Go.Proofs.YtoijcallajegfaaW.PrintWords.Kd
theorem holds_cels {α : Type} {d : Kd α} {Q : α → Prop} {w : World} {base e g : Nat} {ok : Nat → Prop} [Inhabited (Cel d Q w base ok)] {cur : Array Value} {n : Nat} {l : List (Cel d Q w base ok)} (hg : w.heap[g]? = some (.cells cur e (0, 0))) (hll : l.length = n) (hc : n * d.sz ≤ cur.size) (hl : cur.toList.take (n * d.sz) = (l.map (·.c)).flatten) :
    HoldsK (fun z : Cel d Q w base ok => z.c) d.sz w g 0 l.toArray := by
  have hFl := flatK_list (d := d) (Q := Q) (w := w) (ok := ok) l.toArray
  have hFs : (flatK (fun z : Cel d Q w base ok => z.c) d.sz l.toArray).size = n * d.sz := by rw [size_flatK]; simp [hll]
  intro j hj
  rw [hFs] at hj
  have h1 : cur[j]? = (flatK (fun z : Cel d Q w base ok => z.c) d.sz l.toArray)[j]? := by
    rw [← Array.getElem?_toList, ← Array.getElem?_toList, hFl]
    show _ = (List.map _ l).flatten[j]?
    rw [← hl, List.getElem?_take, if_pos hj]
  refine ⟨?_, ?_⟩
  · show w.cell? ⟨g, 0 + j, none⟩ = _
    rw [Nat.zero_add, getElem!_pos _ j (by rw [hFs]; exact hj)]
    simp only [World.cell?, hg, Option.isSome_none, Bool.false_eq_true, if_false]
    rw [h1, Array.getElem?_eq_getElem (by rw [hFs]; exact hj)]
    rfl
  · simp [World.frozen?, hg]
set_option maxHeartbeats 4000000 in
set_option maxRecDepth 100000 in
theorem comp_none (A : Option Addr) (c : Nat) (fv : Value) (w : World) : Calls Try.prog 102 #[.slice A 0 c, fv] w fun e w' => e = .returned (.slice A 0 c) ∧ w' = w := by
  go_enter Try.func102, Try.ntmps102
  go_wp2
  go_ret
  exact ⟨rfl, rfl⟩
def eqS (x y : S33) : Bool := decide (toN x = toN y)
theorem comp_T {w : World} {base : Nat} {ok : Nat → Prop} {v : Value} {f : Nat → Nat} {xs : List (S33 × Nat)} (h : (Kd.tag f k33).R 33 w base ok v xs) (hq : ∀ x ∈ xs, okS x.1) (hsz : xs.length < 4611686018427387904) :
    Calls Try.prog 102 #[v, .func (.func 18) #[] #[]] w fun e w' => ∃ v', e = .returned v' ∧ CompactTo (Kd.tag f k33) (fun p q : S33 × Nat => eqS p.1 q.1) 33 w w' base ok v v' xs := by
  rcases Nat.eq_zero_or_pos xs.length with h0 | hp
  · have hx : xs = [] := List.length_eq_zero_iff.1 h0
    subst hx
    obtain ⟨A, c, rfl⟩ := Kd.R_slice h
    exact (comp_none A c _ w).mono fun _ _ ⟨he, hw⟩ => ⟨_, he, by rw [hw]; exact ⟨h, Kept.refl _ _, Go.RowKit.Below.refl _ _⟩⟩
  · obtain ⟨g, cap, cur, rfl, hg0, hb, hgl, hg, hn, hm, hcs, l, hl1, hl2⟩ := R_cells h hq hp
    have hll : l.length = xs.length := by rw [← hl1, List.length_map]
    haveI : Inhabited (Cel (Kd.tag f k33) (fun p : S33 × Nat => okS p.1) w base (fun k => ok k ∧ k ≠ g)) := ⟨l[0]'(by omega)⟩
    have hcs' : xs.length * (Kd.tag f k33).sz ≤ cur.size := by rw [hcs]; exact Nat.mul_le_mul_right _ hn
    have hcs2 : xs.length * 2 ≤ cur.size := hcs'
    have hH := holds_cels hg hll hcs' hl2
    have R : RowK (fun z : Cel (Kd.tag f k33) (fun p : S33 × Nat => okS p.1) w base (fun k => ok k ∧ k ≠ g) => z.c) 2 w g 0 l.toArray := ⟨fun z => z.len, fun z => z.one, hH, hgl⟩
    have key := compact_walk (fun z : Cel (Kd.tag f k33) (fun p : S33 × Nat => okS p.1) w base (fun k => ok k ∧ k ≠ g) => z.c) (fun p q => eqS p.x.1 q.x.1) 18 g 0 cap l.toArray w R (enters_of Try.func18 (by kernel_rfl) rfl)
      (fun W hW p q => by
        obtain ⟨dk, hs, m, os, rfl⟩ := hW
        have hh : ∀ (z : Cel (Kd.tag f k33) (fun p : S33 × Nat => okS p.1) w base (fun k => ok k ∧ k ≠ g)), (k33).K (sortWorldK (fun z : Cel (Kd.tag f k33) (fun p : S33 × Nat => okS p.1) w base (fun k => ok k ∧ k ≠ g) => z.c) 2 w g 0 m dk os) z.x.1 z.c := fun z => (k33).K_of_M (z.move (fun k hk hlt => (row_after hg (F := flatK (fun z : Cel (Kd.tag f k33) (fun p : S33 × Nat => okS p.1) w base (fun k => ok k ∧ k ≠ g) => z.c) 2 dk) (by rw [size_flatK, hs]; simpa [hll] using hcs2) rfl).2.1 k hk.2 hlt))
        exact same_exact _ p.x.1 q.x.1 p.c q.c p.q q.q (hh p) (hh q)) (by simpa [hll] using hp) (by simpa [hll] using hsz) (by simpa [hll] using hn)
    have hsz' : l.toArray.size = xs.length := by simp [hll]
    rw [hsz'] at key
    refine key.mono ?_
    rintro e' w' ⟨kk, rfl, dk, W, hC, ⟨n, os, hW⟩, hw⟩
    refine ⟨_, rfl, ?_⟩
    rw [← hsz'] at hC
    refine compR_of (D := l.toArray) (dk := dk) (F := flatK (fun z : Cel (Kd.tag f k33) (fun p : S33 × Nat => okS p.1) w base (fun k => ok k ∧ k ≠ g) => z.c) 2 dk) (m := n) (os := os) (W := W) (kk := kk) hC (by simpa using hl1) (flatK_list dk) hW ?_ hg0 hb hgl hg hn hm hcs
    rcases hw with rfl | ⟨vs, rfl⟩
    · exact .inl rfl
    · refine .inr ⟨vs, ?_⟩
      rw [Nat.zero_add]; rfl
theorem comp_S {w : World} {base : Nat} {ok : Nat → Prop} {v : Value} {xs : List S33} (h : Kd.S k33 33 w base ok v xs) (hq : ∀ x ∈ xs, okS x) (hsz : xs.length < 4611686018427387904) :
    Calls Try.prog 102 #[v, .func (.func 18) #[] #[]] w fun e w' => ∃ v', e = .returned v' ∧ Kd.S k33 33 w' base ok v' (cpt eqS xs) ∧ Kept w w' (fun k => some k = v.ownBlock) ∧ Go.RowKit.Below base w w' := by
  obtain ⟨f, hr⟩ := h
  refine (comp_T hr (zip_all hq) (by rw [List.length_zipIdx]; exact hsz)).mono ?_
  rintro e w' ⟨v', he, h1, h2, h3⟩
  refine ⟨v', he, ?_, h2, h3⟩
  have h4 := S_of_tag h1 (((cpt_sub _ xs.zipIdx).map (·.2)).nodup (zip_nodup xs))
  have h5 := cpt_map (fun p : S33 × Nat => p.1) eqS xs.zipIdx
  rw [zip_fst] at h5
  rw [h5] at h4
  exact h4
theorem ordS : Ord3 okS (fun x y : S33 => cmpS (toN x) (toN y)) where
  irr x _ := by rw [(cmpS_eq _ _).2 rfl]; omega
  tr x y z _ _ _ h1 h2 := cmpS_tr _ _ _ h1 h2
  nt x y z _ _ _ h1 h2 := cmpS_le_tr _ _ _ h1 h2
end Go.Proofs.Ytoijcallajegfaa.M
end
section
namespace Go.Proofs.Ytoijcallajegfaa.A
open Go.RowKit Go.Proofs.YtoijcallajegfaaW.PrintWords Go.Proofs.YtoijcallajegfaaW.PrintLast Go.Proofs.YtoijcallajegfaaW.PrintMore
attribute [local go_sem] max2_int min2_int max_two min_two max_three min_three max_four min_four
set_option linter.unusedVariables false
set_option linter.unusedSimpArgs false
def impl_sortSurfaces.f (l0 : List S33) : Option (List S33) := if (∀ x ∈ l0, M.okS x) ∧ l0.length < 4611686018427387904 then some ((M.sortS (l0.map M.toN)).map M.ofN) else none
theorem impl_sortSurfaces.eq (l xs' : List S33) (hq : ∀ x ∈ l, M.okS x) (hp : xs'.Perm l) (hs : xs'.Pairwise (fun a b => ¬ M.cmpS (M.toN b) (M.toN a) < 0)) : M.cpt M.eqS xs' = (M.sortS (l.map M.toN)).map M.ofN := by
  have h1 : xs'.map M.toN = (l.map M.toN).mergeSort (fun a b => decide (¬ M.cmpS b a < 0)) := M.sort_uniq (hp.map _) (by rw [List.pairwise_map]; exact hs)
  have h2 : (M.cpt M.eqS xs').map M.toN = M.cpt (fun a b => decide (a = b)) (xs'.map M.toN) := M.cpt_map M.toN (fun a b => decide (a = b)) xs'
  have h3 : ((M.cpt M.eqS xs').map M.toN).map M.ofN = M.cpt M.eqS xs' := by
    rw [List.map_map]
    conv => rhs; rw [← List.map_id (M.cpt M.eqS xs')]
    apply List.map_congr_left
    intro x hx
    exact M.okS_of (hq x (hp.mem_iff.1 ((M.cpt_sub M.eqS xs').subset hx)))
  rw [← h3, h2, h1]
  rfl
set_option maxHeartbeats 8000000 in
set_option maxRecDepth 100000 in
theorem impl_sortSurfaces.callsS (P0_ : Nat → Prop) (u9000_ : Value) (l0 : List S33) (r : List S33) (w0 w : World) (hB : Below w0.heap.size w0 w) (ho0 : Kd.S k33 33 w w0.heap.size P0_ u9000_ l0) (h : impl_sortSurfaces.f l0 = some r) :
    Calls Try.prog 51 #[u9000_] w fun e w' => ∃ v0_ : Value, e = .returned v0_ ∧ Kd.S k33 33 w' w0.heap.size P0_ v0_ r ∧ Below w0.heap.size w0 w' ∧ Kept w w' (fun k => some k = u9000_.ownBlock) := by
  unfold impl_sortSurfaces.f at h
  split at h
  · rename_i hq
    obtain rfl := Option.some.inj h
    have HV : ∃ A c, u9000_ = .slice A l0.length c := Kd.R_slice (Kd.S_R ho0)
    obtain ⟨f_, hr_⟩ := ho0
    have hs1 := (M.sortN (d := Kd.tag f_ k33) (Q := fun p : S33 × Nat => M.okS p.1) (cf := fun p q : S33 × Nat => M.cmpS (M.toN p.1) (M.toN q.1)) Try.sortB101 Try.isAgg33 Try.sizeOf33 M.ordS.fst 60 (enters_of Try.func60 (by kernel_rfl) rfl)
      (fun W x y cx cy hx hy h1 h2 => M.cmp_exact W x.1 y.1 cx cy hx hy h1 h2) hr_ (M.zip_all hq.1) (by rw [List.length_zipIdx]; exact hq.2))
    have hs0 : Calls Try.prog _ _ w fun e' w' => e' = .returned (.tuple #[]) ∧ M.SortedToS k33 (fun x y : S33 => M.cmpS (M.toN x) (M.toN y)) 33 w w' w0.heap.size P0_ u9000_ l0 := hs1.mono (fun e w2 h => ⟨h.1, M.sortedS_of (cf := fun x y : S33 => M.cmpS (M.toN x) (M.toN y)) h.2⟩)
    clear hs1
    change Calls Try.prog 101 _ _ _ at hs0
    have HS := Aside0.mk hs0
    clear hs0
    have HL := Aside0.mk (show ∀ xs' : List S33, xs'.Perm l0 → (∀ x ∈ xs', M.okS x) ∧ xs'.length < 4611686018427387904 from fun xs' hp => ⟨fun x hx => hq.1 x (hp.mem_iff.1 hx), by rw [hp.length_eq]; exact hq.2⟩)
    have HQ := Aside0.mk hq.1
    have HB := Aside0.mk hB
    clear hq hr_ h hB
    obtain ⟨Av, cv, rfl⟩ := HV
    generalize l0.length = nv at HS ⊢
    go_enter Try.func51, Try.ntmps51
    go_wp2_with (first | (go_at_call 101; (with_reducible refine HS.out.mono ?_); rintro e w1 ⟨rfl, xs', hp, hs, hN, hK, hB1⟩; have HP := Aside0.mk hp; have HO := Aside0.mk hs; have HN := Aside0.mk hN; have HK := Aside0.mk hK; have HB1 := Aside0.mk hB1; clear hp hs hN hK hB1) | (go_at_call 102; (refine (M.comp_S HN.out (HL.out xs' HP.out).1 (HL.out xs' HP.out).2).mono ?_); rintro e w2 ⟨v', rfl, hC, hK2, hB2⟩; have HC := Aside0.mk hC; have HK2 := Aside0.mk hK2; have HB2 := Aside0.mk hB2; clear hC hK2 hB2))
    go_ret
    refine ⟨_, rfl, ?_, HB.out.trans (HB1.out.trans HB2.out), ⟨Nat.le_trans HK.out.1 HK2.out.1, fun i hi hn => (HK2.out.2 i (Nat.lt_of_lt_of_le hi HK.out.1) hn).trans (HK.out.2 i hi hn)⟩⟩
    rw [← impl_sortSurfaces.eq l0 xs' HQ.out HP.out (HO.out.imp (fun h => by omega))]
    exact HC.out
  · cases h
end Go.Proofs.Ytoijcallajegfaa.A
end
