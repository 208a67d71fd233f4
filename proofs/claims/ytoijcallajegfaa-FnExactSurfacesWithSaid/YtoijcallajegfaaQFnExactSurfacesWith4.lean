/- Lemmas for the row FnExactSurfacesWith: the program's functions told as plain functions, and plain mathematics. No conditions. -/
import Derived.Test.YtoijcallajegfaaQFnExactSurfacesWith3
section
namespace Go.Proofs.Ytoijcallajegfaa.A
open Go.RowKit Go.Proofs.YtoijcallajegfaaW.PrintWords Go.Proofs.YtoijcallajegfaaW.PrintLast Go.Proofs.YtoijcallajegfaaW.PrintMore
attribute [local go_sem] max2_int min2_int max_two min_two max_three min_three max_four min_four
set_option linter.unusedVariables false
set_option linter.unusedSimpArgs false
def spec_l10Insert.l0 : Nat → List (S33) → Bool → List (S33) → Int → Int → List Int → List Int → Option ((List (S33)))
  | 0, _, _, _, _, _, _, _ => none
  | k + 1, x5, x6, x10, x11, x12, x1169000, x1169001 => if x12 < x11 then (if 0 ≤ x12 then (if x12 < (x10.length : Int) then ((spec_SameSurface.f k ((rd_T33 x10 x12).f0) ((rd_T33 x10 x12).f1) x1169000 x1169001).bind fun t1177 => (if t1177 = true then (if x5.length < 2932031007402 then (spec_l10Insert.l0 k (x5 ++ [(⟨(rd_T33 x10 x12).f0, (rd_T33 x10 x12).f1⟩ : S33)]) true x10 x11 (wrap64 (x12 + 1)) x1169000 x1169001) else (none)) else (if x6 = true then (if x5.length < 2932031007402 then (spec_l10Insert.l0 k (x5 ++ [(⟨(rd_T33 x10 x12).f0, (rd_T33 x10 x12).f1⟩ : S33)]) x6 x10 x11 (wrap64 (x12 + 1)) x1169000 x1169001) else (none)) else ((spec_l03Before.f k x1169000 x1169001 ((rd_T33 x10 x12).f0) ((rd_T33 x10 x12).f1)).bind fun t1184 => (if t1184 = true then (if x5.length < 2932031007402 then ((some (x5 ++ [(⟨x1169000, x1169001⟩ : S33)] : List (S33))).bind fun y1185 => (if y1185.length < 2932031007402 then (spec_l10Insert.l0 k (y1185 ++ [(⟨(rd_T33 x10 x12).f0, (rd_T33 x10 x12).f1⟩ : S33)]) true x10 x11 (wrap64 (x12 + 1)) x1169000 x1169001) else (none))) else (none)) else (if x5.length < 2932031007402 then (spec_l10Insert.l0 k (x5 ++ [(⟨(rd_T33 x10 x12).f0, (rd_T33 x10 x12).f1⟩ : S33)]) x6 x10 x11 (wrap64 (x12 + 1)) x1169000 x1169001) else (none))))))) else (none)) else (none)) else (if x6 = true then (some x5) else (if x5.length < 2932031007402 then (some (x5 ++ [(⟨x1169000, x1169001⟩ : S33)])) else (none)))
def spec_l10Insert.f (k : Nat) (l0 : List (S33)) (l1_0 : List Int) (l1_1 : List Int) : Option ((List (S33))) := spec_l10Insert.l0 k (([] : List (S33))) false l0 (l0.length : Int) 0 l1_0 l1_1
theorem spec_l10Insert.mono_l : ∀ k, (∀ y0 y1 y2 y3 y4 y5 y6, LeO (spec_l10Insert.l0 k y0 y1 y2 y3 y4 y5 y6) (spec_l10Insert.l0 (k + 1) y0 y1 y2 y3 y4 y5 y6))
  | 0 => fun _ _ _ _ _ _ _ r h => by simp [spec_l10Insert.l0] at h
  | k + 1 => by
    have ih0 := spec_l10Insert.mono_l k
    · intro y0 y1 y2 y3 y4 y5 y6
      unfold spec_l10Insert.l0
      repeat' first|exact ih0 _ _ _ _ _ _ _|exact spec_SameSurface.mono _ _ _ _ _|exact spec_l03Before.mono _ _ _ _ _|exact lo_|refine LeO.ite ?_ ?_|refine LeO.bind ?_ (fun _ => ?_)
theorem spec_l10Insert.mono : ∀ a0 a1 a2 k, LeO (spec_l10Insert.f k a0 a1 a2) (spec_l10Insert.f (k + 1) a0 a1 a2) := by
  intro a0 a1 a2 k
  have ih0 := spec_l10Insert.mono_l k
  unfold spec_l10Insert.f
  repeat' first|exact ih0 _ _ _ _ _ _ _|exact spec_SameSurface.mono _ _ _ _ _|exact spec_l03Before.mono _ _ _ _ _|exact lo_|refine LeO.ite ?_ ?_|refine LeO.bind ?_ (fun _ => ?_)
set_option maxHeartbeats 8000000 in
set_option maxRecDepth 100000 in
theorem spec_l10Insert.calls (k : Nat) (P0_ : Nat → Prop) (A0 : Option Addr) (c0 : Nat) (l0 : List (S33)) (P1_0_ : Nat → Prop) (A1_0 : Option Addr) (c1_0 : Nat) (l1_0 : List Int) (P1_1_ : Nat → Prop) (A1_1 : Option Addr) (c1_1 : Nat) (l1_1 : List Int) (r : List (S33)) (w : World) (hs0 : Kd.V k33 33 w w.heap.size (fun k_ => P0_ k_) (.slice A0 l0.length c0) l0) (hs1_0 : Kd.V (Kd.int .i64) 3 w w.heap.size (fun k_ => P1_0_ k_) (.slice A1_0 l1_0.length c1_0) l1_0) (hs1_1 : Kd.V (Kd.int .i64) 3 w w.heap.size (fun k_ => P1_1_ k_) (.slice A1_1 l1_1.length c1_1) l1_1) (h : spec_l10Insert.f k l0 l1_0 l1_1 = some r) :
    Calls Try.prog 86 #[.slice A0 l0.length c0, .agg #[.slice A1_0 l1_0.length c1_0, .slice A1_1 l1_1.length c1_1]] w fun e w' => ∃ v0_ : Value, e = .returned (v0_) ∧ Kd.N k33 33 w' w.heap.size (fun k_ => ((P0_ k_ ∨ P1_0_ k_ ∨ P1_1_ k_) ∨ w.heap.size ≤ k_)) v0_ r ∧ Below w.heap.size w w' := by
  have hu33 := Try.underlying33
  have HO0 := Aside0.mk (show Kd.V k33 33 w w.heap.size (fun k_ => ((P0_ k_ ∨ P1_0_ k_ ∨ P1_1_ k_) ∨ w.heap.size ≤ k_)) (.slice A0 l0.length c0) l0 from Kd.V_mono hs0 (fun k_ hk => .inl (.inl hk)))
  have HO1_0 := Aside0.mk (show Kd.V (Kd.int .i64) 3 w w.heap.size (fun k_ => ((P0_ k_ ∨ P1_0_ k_ ∨ P1_1_ k_) ∨ w.heap.size ≤ k_)) (.slice A1_0 l1_0.length c1_0) l1_0 from Kd.V_mono hs1_0 (fun k_ hk => .inl (.inr (.inl hk))))
  have HO1_1 := Aside0.mk (show Kd.V (Kd.int .i64) 3 w w.heap.size (fun k_ => ((P0_ k_ ∨ P1_0_ k_ ∨ P1_1_ k_) ∨ w.heap.size ≤ k_)) (.slice A1_1 l1_1.length c1_1) l1_1 from Kd.V_mono hs1_1 (fun k_ hk => .inl (.inr (.inr hk))))
  have HB := Aside0.mk (Below.refl w.heap.size w)
  have H := h
  unfold spec_l10Insert.f at H
  clear h
  obtain ⟨y1169, hy1169⟩ : ∃ y_ : List (S33), y_ = (([] : List (S33))) := ⟨_, rfl⟩
  replace H : (spec_l10Insert.l0 k y1169 false l0 (l0.length : Int) 0 l1_0 l1_1) = some r := by first | (rw [hy1169]; exact H) | exact H
  have Ny1169 := Aside0.mk hy1169
  clear hy1169
  have H' := Aside0.mk H
  clear H
  go_enter Try.func86, Try.ntmps86
  go_wp2_with (first | ((with_reducible refine gate_dst (N := 3) rfl ?_); refine bx_ 3 #[.slice A1_0 l1_0.length c1_0, .slice A1_1 l1_1.length c1_1] 33 ?_; intro gb1168 hg w3 hbox hb; replace HO0 := Aside0.mk (Kd.V_below (Kd.V_elderB (by (with_reducible repeat (first | apply Kd.V_alloc | apply Kd.V_drewN | apply Kd.V_drew)); exact HO0.out) gb1168 (Nat.le_of_eq hg.symm)) hb); replace HO1_0 := Aside0.mk (Kd.V_below (Kd.V_elderB (by (with_reducible repeat (first | apply Kd.V_alloc | apply Kd.V_drewN | apply Kd.V_drew)); exact HO1_0.out) gb1168 (Nat.le_of_eq hg.symm)) hb); replace HO1_1 := Aside0.mk (Kd.V_below (Kd.V_elderB (by (with_reducible repeat (first | apply Kd.V_alloc | apply Kd.V_drewN | apply Kd.V_drew)); exact HO1_1.out) gb1168 (Nat.le_of_eq hg.symm)) hb); have BK1168 := Aside0.mk hbox; have GW1168 := gw_ w hg; have GE1168 := GW1168; replace HB := b1_ hb; clear hb hbox hg) | ((with_reducible refine gate_dst (N := 9) rfl ?_); refine Kd.N_lit k33 _ 33 ?hg (N' := 9) ?hd (xs := ([] : List (S33))) (inner := []) (ok := (fun k_ => ((P0_ k_ ∨ P1_0_ k_ ∨ P1_1_ k_) ∨ w.heap.size ≤ k_) ∧ k_ ≠ gb1168)) (okp := (fun k_ => ((P0_ k_ ∨ P1_0_ k_ ∨ P1_1_ k_) ∨ w.heap.size ≤ k_) ∧ k_ ≠ gb1168)) ?hr ?hp (fun _ hk => hk) ((show ∀ k_, w3.heap.size ≤ k_ → (fun k_ => ((P0_ k_ ∨ P1_0_ k_ ∨ P1_1_ k_) ∨ w.heap.size ≤ k_) ∧ k_ ≠ gb1168) k_ from fun k_ hk => ⟨(.inr (Nat.le_trans (below_size hB_) hk)), Kd.freshB (kk_ BK1168) k_ hk⟩) _ (Nat.le_refl _)) (Below.refl _ _) (Nat.le_refl _) (by simp) ?_; (case hd => rfl); (case hg => rfl); (case hr => first | (go_simp; done) | (go_simp; rfl)); (case hp => exact (Reps.none _ _)); intro v1170 w4 ho5 hb hg_ hnew_; clear hg_ hnew_; (first | rw [← Ny1169.out] at ho5 | (simp only [Int.reduceToNat] at ho5; rw [← Ny1169.out] at ho5)); replace HO0 := Aside0.mk (Kd.V_elder' (by (with_reducible repeat (first | apply Kd.V_alloc | apply Kd.V_drewN | apply Kd.V_drew)); exact HO0.out) (Kd.N_base ho5) hb); replace HO1_0 := Aside0.mk (Kd.V_elder' (by (with_reducible repeat (first | apply Kd.V_alloc | apply Kd.V_drewN | apply Kd.V_drew)); exact HO1_0.out) (Kd.N_base ho5) hb); replace HO1_1 := Aside0.mk (Kd.V_elder' (by (with_reducible repeat (first | apply Kd.V_alloc | apply Kd.V_drewN | apply Kd.V_drew)); exact HO1_1.out) (Kd.N_base ho5) hb); have HO1171 := Aside0.mk (Kd.N_lower ho5 (below_size hB_)); replace BK1168 := bb_ BK1168 hb; replace HB := b1_ hb; clear hb ho5))
  go_loopg [5, 6, 12] k (fun kq v5 v6 v12 w' => ∃ (x5_1 : List (S33)) (x6_1 : Bool) (x12_1 : Int), v6 = .bool x6_1 ∧ v12 = .int .i64 x12_1 ∧ Aside0 (spec_l10Insert.l0 kq x5_1 x6_1 l0 (l0.length : Int) x12_1 l1_0 l1_1 = some r) ∧ Aside0 (kq ≤ k) ∧ Aside0 (Kd.N k33 33 w' w.heap.size (fun k_ => ((P0_ k_ ∨ P1_0_ k_ ∨ P1_1_ k_) ∨ w.heap.size ≤ k_) ∧ k_ ≠ gb1168) v5 x5_1) ∧ Aside0 (Kd.V k33 33 w' w.heap.size (fun k_ => ((P0_ k_ ∨ P1_0_ k_ ∨ P1_1_ k_) ∨ w.heap.size ≤ k_) ∧ some k_ ≠ (v5 : Value).ownBlock ∧ k_ ≠ gb1168) (.slice A0 l0.length c0) l0) ∧ Aside0 (Kd.V (Kd.int .i64) 3 w' w.heap.size (fun k_ => ((P0_ k_ ∨ P1_0_ k_ ∨ P1_1_ k_) ∨ w.heap.size ≤ k_) ∧ some k_ ≠ (v5 : Value).ownBlock ∧ k_ ≠ gb1168) (.slice A1_0 l1_0.length c1_0) l1_0) ∧ Aside0 (Kd.V (Kd.int .i64) 3 w' w.heap.size (fun k_ => ((P0_ k_ ∨ P1_0_ k_ ∨ P1_1_ k_) ∨ w.heap.size ≤ k_) ∧ some k_ ≠ (v5 : Value).ownBlock ∧ k_ ≠ gb1168) (.slice A1_1 l1_1.length c1_1) l1_1) ∧ Aside0 (w'.heap[gb1168]? = some (.cells #[(.slice A1_0 l1_0.length c1_0), (.slice A1_1 l1_1.length c1_1)] 33 (0, 0))) ∧ Aside0 (Below w.heap.size w w'))
  case atStart => exact ⟨(y1169), (false), (0), qc_, qc_, H', ⟨Nat.le_refl _⟩, ⟨by (with_reducible repeat (first | apply Kd.N_alloc | apply Kd.N_drewN | apply Kd.N_drew)); exact HO1171.out⟩, ⟨by (with_reducible repeat (first | apply Kd.V_alloc | apply Kd.V_drewN | apply Kd.V_drew)); exact Kd.V_mono HO0.out (fun _ hk => ⟨hk.1.1, ⟨hk.2, hk.1.2⟩⟩)⟩, ⟨by (with_reducible repeat (first | apply Kd.V_alloc | apply Kd.V_drewN | apply Kd.V_drew)); exact Kd.V_mono HO1_0.out (fun _ hk => ⟨hk.1.1, ⟨hk.2, hk.1.2⟩⟩)⟩, ⟨by (with_reducible repeat (first | apply Kd.V_alloc | apply Kd.V_drewN | apply Kd.V_drew)); exact Kd.V_mono HO1_1.out (fun _ hk => ⟨hk.1.1, ⟨hk.2, hk.1.2⟩⟩)⟩, ⟨(kk_ BK1168)⟩, ⟨hB_⟩⟩
  case round =>
    clear H'
    obtain ⟨x5_1, x6_1, x12_1, rfl, rfl, HA, HK1, HO_5, HO_10, HO_1169000, HO_1169001, BK1168, HB⟩ := hrel
    cases gk with
    | zero => exact absurd HA.out (by simp [spec_l10Insert.l0])
    | succ k1 =>
      have H := HA.out
      clear HA
      simp only [spec_l10Insert.l0] at H
      by_cases c6 : x12_1 < (l0.length : Int)
      · rw [if_pos c6] at H
        have c6b0 := decide_eq_true c6
        clear c6
        have c7 := cp_ H
        replace H := ca_ H
        have c7b0 := decide_eq_true c7
        clear c7
        have c8 := cp_ H
        replace H := ca_ H
        have c8b0 := decide_eq_true c8
        clear c8
        obtain ⟨t1177, A9, H⟩ := bi_ H
        by_cases c10 : t1177 = true
        · subst c10
          rw [if_pos rfl] at H
          have c11 := cp_ H
          replace H := ca_ H
          have LMc11 := Aside0.mk c11
          clear c11
          obtain ⟨y1178, hy1178⟩ : ∃ y_ : List (S33), y_ = (x5_1 ++ [(⟨(rd_T33 l0 x12_1).f0, (rd_T33 l0 x12_1).f1⟩ : S33)]) := ⟨_, rfl⟩
          replace H : (spec_l10Insert.l0 k1 y1178 true l0 (l0.length : Int) (wrap64 (x12_1 + 1)) l1_0 l1_1) = some r := by first | (rw [hy1178]; exact H) | exact H
          have Ny1178 := Aside0.mk hy1178
          clear hy1178
          have H' := Aside0.mk H
          clear H
          have p1175 : 0 ≤ (x12_1 : Int) := of_decide_eq_true qe_
          have q1175 : x12_1 < (l0.length : Int) := of_decide_eq_true qe_
          obtain ⟨ad1175, A1175_0, c1175_0, A1175_1, c1175_1, e1175, hx1175_0, hx1175_1, hl1175_0, hi1175_0, hl1175_1, hi1175_1⟩ := at_T33 (Kd.V_reads' HO_10.out).2.2 x12_1 p1175 q1175
          cases e1175
          obtain ⟨ce1175, hce1175, hMe1175, hcc1175⟩ := Kd.V_get HO_10.out z33 x12_1 p1175 (by first | exact q1175 | exact of_decide_eq_true qe_ | (have e_ := (Kd.V_reads' HO_10.out).1; omega))
          obtain ⟨ua1175_0, uc1175_0, ua1175_1, uc1175_1, rfl, ul1175_0, ge1175_0, ul1175_1, ge1175_1⟩ := k33_openF hMe1175
          have hv1175_0 := hcc1175 0 _ rfl
          rw [Nat.add_zero] at hv1175_0
          replace hv1175_0 := Option.some.inj (hv1175_0.symm.trans hx1175_0)
          injection hv1175_0 with hva_ hvn_ hvc_
          rw [hva_] at ge1175_0
          rw [hvc_] at ul1175_0
          have HL1175_0 := Aside0.mk (show Kd.V (Kd.int .i64) 3 _ w.heap.size _ _ ((rd_T33 l0 x12_1).f0) from Kd.V_mk ul1175_0 ge1175_0)
          clear hva_ hvn_ hvc_ ge1175_0 ul1175_0
          have hv1175_1 := hcc1175 1 _ rfl
          rw [add_field _ _ 1 (by omega)] at hv1175_1
          replace hv1175_1 := Option.some.inj (hv1175_1.symm.trans hx1175_1)
          injection hv1175_1 with hva_ hvn_ hvc_
          rw [hva_] at ge1175_1
          rw [hvc_] at ul1175_1
          have HL1175_1 := Aside0.mk (show Kd.V (Kd.int .i64) 3 _ w.heap.size _ _ ((rd_T33 l0 x12_1).f1) from Kd.V_mk ul1175_1 ge1175_1)
          clear hva_ hvn_ hvc_ ge1175_1 ul1175_1
          clear hcc1175 hce1175
          have HR1175_0 := Aside0.mk hi1175_0
          have HC1175_0 := Aside0.mk hl1175_0
          clear hi1175_0 hl1175_0
          have HR1175_1 := Aside0.mk hi1175_1
          have HC1175_1 := Aside0.mk hl1175_1
          clear hi1175_1 hl1175_1
          replace p1175 := eq_true p1175
          replace q1175 := eq_true q1175
          go_wp2_with (first | ((with_reducible refine gate_dst (N := 8) rfl ?_); refine bx_ 8 #[.slice none 0 0, .slice none 0 0] 33 ?_; intro gb1176 hg w12 hbox hb; replace HO_5 := Aside0.mk (Kd.N_below (Kd.N_elderB (by (with_reducible repeat (first | apply Kd.N_alloc | apply Kd.N_drewN | apply Kd.N_drew)); exact HO_5.out) gb1176 (Nat.le_of_eq hg.symm)) hb); replace HO_10 := Aside0.mk (Kd.V_below (Kd.V_elderB (by (with_reducible repeat (first | apply Kd.V_alloc | apply Kd.V_drewN | apply Kd.V_drew)); exact HO_10.out) gb1176 (Nat.le_of_eq hg.symm)) hb); replace HO_1169000 := Aside0.mk (Kd.V_below (Kd.V_elderB (by (with_reducible repeat (first | apply Kd.V_alloc | apply Kd.V_drewN | apply Kd.V_drew)); exact HO_1169000.out) gb1176 (Nat.le_of_eq hg.symm)) hb); replace HO_1169001 := Aside0.mk (Kd.V_below (Kd.V_elderB (by (with_reducible repeat (first | apply Kd.V_alloc | apply Kd.V_drewN | apply Kd.V_drew)); exact HO_1169001.out) gb1176 (Nat.le_of_eq hg.symm)) hb); replace HL1175_0 := Aside0.mk (Kd.V_below (Kd.V_elderB (by (with_reducible repeat (first | apply Kd.V_alloc | apply Kd.V_drewN | apply Kd.V_drew)); exact HL1175_0.out) gb1176 (Nat.le_of_eq hg.symm)) hb); replace HL1175_1 := Aside0.mk (Kd.V_below (Kd.V_elderB (by (with_reducible repeat (first | apply Kd.V_alloc | apply Kd.V_drewN | apply Kd.V_drew)); exact HL1175_1.out) gb1176 (Nat.le_of_eq hg.symm)) hb); replace HR1175_0 := Aside0.mk (Kd.C_below (by repeat (first | (with_reducible exact HR1175_0.out) | (with_reducible refine Kd.C_alloc ?_ _) | (with_reducible refine Kd.C_drewN ?_ _) | (with_reducible refine Kd.C_drew ?_) | exact HR1175_0.out)) hb); replace HR1175_1 := Aside0.mk (Kd.C_below (by repeat (first | (with_reducible exact HR1175_1.out) | (with_reducible refine Kd.C_alloc ?_ _) | (with_reducible refine Kd.C_drewN ?_ _) | (with_reducible refine Kd.C_drew ?_) | exact HR1175_1.out)) hb); have BK1176 := Aside0.mk hbox; have GW1176 := gw_ w hg; have GE1176 := GW1176; replace HB := b1_ hb; have NB1168_1176 := gN_ BK1168 hg; have NB1176_1168 := gP_ BK1168 hg; replace BK1168 := bb_ BK1168 hb; clear hb hbox hg; have hnb13 := NB1176_1168.out; have hnc13 := NB1168_1176.out; obtain ⟨hcz14_0, hcz14_1, hfz14_0, hfz14_1⟩ := c2_ BK1176; obtain ⟨hcz15_0, hcz15_1, hfz15_0, hfz15_1⟩ := c2_ BK1168) | ((with_reducible refine gate_callee (f := 125) rfl ?_); refine gL_ (some 18) Try.func125 #[.agg #[.slice A1175_0 ((rd_T33 l0 x12_1).f0).length c1175_0, .slice A1175_1 ((rd_T33 l0 x12_1).f1).length c1175_1], .agg #[.slice A1_0 l1_0.length c1_0, .slice A1_1 l1_1.length c1_1]] rfl qa_ ?_; (with_reducible refine (spec_SameSurface.calls k1 _ _ ((rd_T33 l0 x12_1).f0) _ _ ((rd_T33 l0 x12_1).f1) _ _ l1_0 _ _ l1_1 true _ ?side1 ?side2 ?side3 ?side4 ?side5 ?side6 ?side7 ?side8 A9.out).mono ?_); (case side1 => repeat (first | exact ((Kd.V_reads' (by (with_reducible repeat (first | apply Kd.V_alloc | apply Kd.V_drewN | apply Kd.V_drew)); exact (Kd.V_mono (Kd.V_far (p := ⟨gb1176, 1, none⟩) (Kd.V_far (p := ⟨gb1176, 0, none⟩) (Kd.V_mono HL1175_0.out (fun k_ hk => (⟨hk, hk.2⟩ : _ ∧ k_ ≠ gb1176))) (fun _ hk => hk.2) (.slice A1175_0 ((rd_T33 l0 x12_1).f0).length c1175_0)) (fun _ hk => hk.2) (.slice A1175_1 ((rd_T33 l0 x12_1).f1).length c1175_1)) (fun _ h_ => h_.1)))).2.2) | (with_reducible refine Kd.C_alloc ?_ _) | (with_reducible refine Kd.C_drewN ?_ _) | (with_reducible refine Kd.C_drew ?_))); (case side2 => exact HC1175_0.out); (case side3 => repeat (first | exact ((Kd.V_reads' (by (with_reducible repeat (first | apply Kd.V_alloc | apply Kd.V_drewN | apply Kd.V_drew)); exact (Kd.V_mono (Kd.V_far (p := ⟨gb1176, 1, none⟩) (Kd.V_far (p := ⟨gb1176, 0, none⟩) (Kd.V_mono HL1175_1.out (fun k_ hk => (⟨hk, hk.2⟩ : _ ∧ k_ ≠ gb1176))) (fun _ hk => hk.2) (.slice A1175_0 ((rd_T33 l0 x12_1).f0).length c1175_0)) (fun _ hk => hk.2) (.slice A1175_1 ((rd_T33 l0 x12_1).f1).length c1175_1)) (fun _ h_ => h_.1)))).2.2) | (with_reducible refine Kd.C_alloc ?_ _) | (with_reducible refine Kd.C_drewN ?_ _) | (with_reducible refine Kd.C_drew ?_))); (case side4 => exact HC1175_1.out); (case side5 => refine (Kd.V_reads' (e := 3) (base := w.heap.size) (ok := fun k_ => ((((P0_ k_ ∨ P1_0_ k_ ∨ P1_1_ k_) ∨ w.heap.size ≤ k_) ∧ (some k_ ≠ (u5 : Value).ownBlock ∧ k_ ≠ gb1168)) ∧ k_ ≠ gb1176)) (n := l1_0.length) (c := c1_0) ?_).2.2; exact (by (with_reducible repeat (first | apply Kd.V_alloc | apply Kd.V_drewN | apply Kd.V_drew)); exact (Kd.V_mono (Kd.V_far (p := ⟨gb1176, 1, none⟩) (Kd.V_far (p := ⟨gb1176, 0, none⟩) (Kd.V_mono HO_1169000.out (fun k_ hk => (⟨hk, hk.2⟩ : _ ∧ k_ ≠ gb1176))) (fun _ hk => hk.2) (.slice A1175_0 ((rd_T33 l0 x12_1).f0).length c1175_0)) (fun _ hk => hk.2) (.slice A1175_1 ((rd_T33 l0 x12_1).f1).length c1175_1)) (fun _ h_ => h_.1)))); (case side6 => exact (Kd.V_reads' HO_1169000.out).2.1); (case side7 => refine (Kd.V_reads' (e := 3) (base := w.heap.size) (ok := fun k_ => ((((P0_ k_ ∨ P1_0_ k_ ∨ P1_1_ k_) ∨ w.heap.size ≤ k_) ∧ (some k_ ≠ (u5 : Value).ownBlock ∧ k_ ≠ gb1168)) ∧ k_ ≠ gb1176)) (n := l1_1.length) (c := c1_1) ?_).2.2; exact (by (with_reducible repeat (first | apply Kd.V_alloc | apply Kd.V_drewN | apply Kd.V_drew)); exact (Kd.V_mono (Kd.V_far (p := ⟨gb1176, 1, none⟩) (Kd.V_far (p := ⟨gb1176, 0, none⟩) (Kd.V_mono HO_1169001.out (fun k_ hk => (⟨hk, hk.2⟩ : _ ∧ k_ ≠ gb1176))) (fun _ hk => hk.2) (.slice A1175_0 ((rd_T33 l0 x12_1).f0).length c1175_0)) (fun _ hk => hk.2) (.slice A1175_1 ((rd_T33 l0 x12_1).f1).length c1175_1)) (fun _ h_ => h_.1)))); (case side8 => exact (Kd.V_reads' HO_1169001.out).2.1); rintro e w16 ⟨rfl, hb⟩; refine ⟨_, rfl, ?_⟩; replace HO_5 := Aside0.mk (Kd.N_below (by (with_reducible repeat (first | apply Kd.N_alloc | apply Kd.N_drewN | apply Kd.N_drew)); exact (Kd.N_mono (Kd.N_far (p := ⟨gb1176, 1, none⟩) (Kd.N_far (p := ⟨gb1176, 0, none⟩) (Kd.N_mono HO_5.out (fun k_ hk => (⟨hk, hk.2⟩ : _ ∧ k_ ≠ gb1176))) (fun _ hk => hk.2) (.slice A1175_0 ((rd_T33 l0 x12_1).f0).length c1175_0)) (fun _ hk => hk.2) (.slice A1175_1 ((rd_T33 l0 x12_1).f1).length c1175_1)) (fun _ h_ => h_.1))) hb); replace HO_10 := Aside0.mk (Kd.V_below (by (with_reducible repeat (first | apply Kd.V_alloc | apply Kd.V_drewN | apply Kd.V_drew)); exact (Kd.V_mono (Kd.V_far (p := ⟨gb1176, 1, none⟩) (Kd.V_far (p := ⟨gb1176, 0, none⟩) (Kd.V_mono HO_10.out (fun k_ hk => (⟨hk, hk.2⟩ : _ ∧ k_ ≠ gb1176))) (fun _ hk => hk.2) (.slice A1175_0 ((rd_T33 l0 x12_1).f0).length c1175_0)) (fun _ hk => hk.2) (.slice A1175_1 ((rd_T33 l0 x12_1).f1).length c1175_1)) (fun _ h_ => h_.1))) hb); replace HO_1169000 := Aside0.mk (Kd.V_below (by (with_reducible repeat (first | apply Kd.V_alloc | apply Kd.V_drewN | apply Kd.V_drew)); exact (Kd.V_mono (Kd.V_far (p := ⟨gb1176, 1, none⟩) (Kd.V_far (p := ⟨gb1176, 0, none⟩) (Kd.V_mono HO_1169000.out (fun k_ hk => (⟨hk, hk.2⟩ : _ ∧ k_ ≠ gb1176))) (fun _ hk => hk.2) (.slice A1175_0 ((rd_T33 l0 x12_1).f0).length c1175_0)) (fun _ hk => hk.2) (.slice A1175_1 ((rd_T33 l0 x12_1).f1).length c1175_1)) (fun _ h_ => h_.1))) hb); replace HO_1169001 := Aside0.mk (Kd.V_below (by (with_reducible repeat (first | apply Kd.V_alloc | apply Kd.V_drewN | apply Kd.V_drew)); exact (Kd.V_mono (Kd.V_far (p := ⟨gb1176, 1, none⟩) (Kd.V_far (p := ⟨gb1176, 0, none⟩) (Kd.V_mono HO_1169001.out (fun k_ hk => (⟨hk, hk.2⟩ : _ ∧ k_ ≠ gb1176))) (fun _ hk => hk.2) (.slice A1175_0 ((rd_T33 l0 x12_1).f0).length c1175_0)) (fun _ hk => hk.2) (.slice A1175_1 ((rd_T33 l0 x12_1).f1).length c1175_1)) (fun _ h_ => h_.1))) hb); replace BK1168 := Aside0.mk (blk_below (g := gb1168) (o := .cells #[.slice A1_0 l1_0.length c1_0, .slice A1_1 l1_1.length c1_1] 33 (0, 0)) (by (with_reducible repeat (first | refine blk_drewN ?_ _ | refine blk_drew ?_ | refine blk_alloc ?_ _)); refine blk_far ?_ NB1168_1176.out _; (with_reducible repeat (first | refine blk_drewN ?_ _ | refine blk_drew ?_ | refine blk_alloc ?_ _)); refine blk_far ?_ NB1168_1176.out _; (with_reducible repeat (first | refine blk_drewN ?_ _ | refine blk_drew ?_ | refine blk_alloc ?_ _)); exact BK1168.out) hb); replace HR1175_0 := Aside0.mk (Kd.C_below ((Kd.V_reads' (by (with_reducible repeat (first | apply Kd.V_alloc | apply Kd.V_drewN | apply Kd.V_drew)); exact (Kd.V_mono (Kd.V_far (p := ⟨gb1176, 1, none⟩) (Kd.V_far (p := ⟨gb1176, 0, none⟩) (Kd.V_mono HL1175_0.out (fun k_ hk => (⟨hk, hk.2⟩ : _ ∧ k_ ≠ gb1176))) (fun _ hk => hk.2) (.slice A1175_0 ((rd_T33 l0 x12_1).f0).length c1175_0)) (fun _ hk => hk.2) (.slice A1175_1 ((rd_T33 l0 x12_1).f1).length c1175_1)) (fun _ h_ => h_.1)))).2.2) hb); replace HL1175_0 := Aside0.mk (Kd.V_below (by (with_reducible repeat (first | apply Kd.V_alloc | apply Kd.V_drewN | apply Kd.V_drew)); exact (Kd.V_mono (Kd.V_far (p := ⟨gb1176, 1, none⟩) (Kd.V_far (p := ⟨gb1176, 0, none⟩) (Kd.V_mono HL1175_0.out (fun k_ hk => (⟨hk, hk.2⟩ : _ ∧ k_ ≠ gb1176))) (fun _ hk => hk.2) (.slice A1175_0 ((rd_T33 l0 x12_1).f0).length c1175_0)) (fun _ hk => hk.2) (.slice A1175_1 ((rd_T33 l0 x12_1).f1).length c1175_1)) (fun _ h_ => h_.1))) hb); replace HR1175_1 := Aside0.mk (Kd.C_below ((Kd.V_reads' (by (with_reducible repeat (first | apply Kd.V_alloc | apply Kd.V_drewN | apply Kd.V_drew)); exact (Kd.V_mono (Kd.V_far (p := ⟨gb1176, 1, none⟩) (Kd.V_far (p := ⟨gb1176, 0, none⟩) (Kd.V_mono HL1175_1.out (fun k_ hk => (⟨hk, hk.2⟩ : _ ∧ k_ ≠ gb1176))) (fun _ hk => hk.2) (.slice A1175_0 ((rd_T33 l0 x12_1).f0).length c1175_0)) (fun _ hk => hk.2) (.slice A1175_1 ((rd_T33 l0 x12_1).f1).length c1175_1)) (fun _ h_ => h_.1)))).2.2) hb); replace HL1175_1 := Aside0.mk (Kd.V_below (by (with_reducible repeat (first | apply Kd.V_alloc | apply Kd.V_drewN | apply Kd.V_drew)); exact (Kd.V_mono (Kd.V_far (p := ⟨gb1176, 1, none⟩) (Kd.V_far (p := ⟨gb1176, 0, none⟩) (Kd.V_mono HL1175_1.out (fun k_ hk => (⟨hk, hk.2⟩ : _ ∧ k_ ≠ gb1176))) (fun _ hk => hk.2) (.slice A1175_0 ((rd_T33 l0 x12_1).f0).length c1175_0)) (fun _ hk => hk.2) (.slice A1175_1 ((rd_T33 l0 x12_1).f1).length c1175_1)) (fun _ h_ => h_.1))) hb); replace BK1176 := Aside0.mk (blk_below (g := gb1176) (o := .cells #[.slice A1175_0 ((rd_T33 l0 x12_1).f0).length c1175_0, .slice A1175_1 ((rd_T33 l0 x12_1).f1).length c1175_1] 33 (0, 0)) qp_ hb); replace HB := b1_ hb; clear hb; have hcz17_0 : w16.cell? ⟨gb1176, 0, none⟩ = some (.slice A1175_0 ((rd_T33 l0 x12_1).f0).length c1175_0) := cz0_ BK1176; have hcz17_1 : w16.cell? ⟨gb1176, 1, none⟩ = some (.slice A1175_1 ((rd_T33 l0 x12_1).f1).length c1175_1) := cz1_ BK1176; have hfz17_0 := blk_frozen BK1176.out 0; have hfz17_1 := blk_frozen BK1176.out 1) | ((with_reducible refine gate_builtin (b := .append) (xs := #[.tmp 30, .tmp 32]) rfl ?_); at_builtin; refine Kd.N_append k33 (w0 := w) w.heap.size rfl (.tmp 30) (.tmp 32) 25 33 (.agg #[(.slice none 0 0), (.slice none 0 0)]) 48 rfl Try.underlying25 info33 rfl (by decide) (by omega) u5 x5_1 (⟨(rd_T33 l0 x12_1).f0, (rd_T33 l0 x12_1).f1⟩ : S33) [.slice A1175_0 ((rd_T33 l0 x12_1).f0).length c1175_0, .slice A1175_1 ((rd_T33 l0 x12_1).f1).length c1175_1] (fun k_ => ((P0_ k_ ∨ P1_0_ k_ ∨ P1_1_ k_) ∨ w.heap.size ≤ k_) ∧ k_ ≠ gb1168 ∧ k_ ≠ gb1176) (fun k_ => ((fun k_ => ((P0_ k_ ∨ P1_0_ k_ ∨ P1_1_ k_) ∨ w.heap.size ≤ k_) ∧ k_ ≠ gb1168 ∧ k_ ≠ gb1176)) k_ ∧ some k_ ≠ (u5 : Value).ownBlock) rfl rfl ?aP (fun _ hk => hk) ?aF ?aO ?aB ?aS ?aL ?_; (case aP => exact (k33_mkF _ _ (⟨(rd_T33 l0 x12_1).f0, (rd_T33 l0 x12_1).f1⟩ : S33) (Kd.V_reads' (Kd.V_mono (ok' := (fun k_ => ((fun k_ => ((P0_ k_ ∨ P1_0_ k_ ∨ P1_1_ k_) ∨ w.heap.size ≤ k_) ∧ k_ ≠ gb1168 ∧ k_ ≠ gb1176)) k_ ∧ some k_ ≠ (u5 : Value).ownBlock)) (HL1175_0.out) (fun k_ hk => ⟨⟨hk.1.1, ⟨hk.1.2.2, hk.2⟩⟩, hk.1.2.1⟩))).2.1 (Kd.V_F (Kd.V_mono (ok' := (fun k_ => ((fun k_ => ((P0_ k_ ∨ P1_0_ k_ ∨ P1_1_ k_) ∨ w.heap.size ≤ k_) ∧ k_ ≠ gb1168 ∧ k_ ≠ gb1176)) k_ ∧ some k_ ≠ (u5 : Value).ownBlock)) (HL1175_0.out) (fun k_ hk => ⟨⟨hk.1.1, ⟨hk.1.2.2, hk.2⟩⟩, hk.1.2.1⟩))) (Kd.V_reads' (Kd.V_mono (ok' := (fun k_ => ((fun k_ => ((P0_ k_ ∨ P1_0_ k_ ∨ P1_1_ k_) ∨ w.heap.size ≤ k_) ∧ k_ ≠ gb1168 ∧ k_ ≠ gb1176)) k_ ∧ some k_ ≠ (u5 : Value).ownBlock)) (HL1175_1.out) (fun k_ hk => ⟨⟨hk.1.1, ⟨hk.1.2.2, hk.2⟩⟩, hk.1.2.1⟩))).2.1 (Kd.V_F (Kd.V_mono (ok' := (fun k_ => ((fun k_ => ((P0_ k_ ∨ P1_0_ k_ ∨ P1_1_ k_) ∨ w.heap.size ≤ k_) ∧ k_ ≠ gb1168 ∧ k_ ≠ gb1176)) k_ ∧ some k_ ≠ (u5 : Value).ownBlock)) (HL1175_1.out) (fun k_ hk => ⟨⟨hk.1.1, ⟨hk.1.2.2, hk.2⟩⟩, hk.1.2.1⟩))))); (case aB => exact hB_); (case aF => exact (fun k_ hk => ⟨(.inr (Nat.le_trans (below_size hB_) hk)), Kd.freshB (kk_ BK1168) k_ hk, Kd.freshB (kk_ BK1176) k_ hk⟩)); (case aO => exact (by (with_reducible repeat (first | apply Kd.N_alloc | apply Kd.N_drewN | apply Kd.N_drew)); exact Kd.N_mono HO_5.out (fun _ hk => ⟨hk.1.1, ⟨hk.1.2, hk.2⟩⟩))); (case aS => exact (below_size hB_)); (case aL => have := LMc11.out; omega); intro v1179 w18 ho hb hg hat; rw [← Ny1178.out] at ho; replace HO_10 := Aside0.mk (Kd.V_afterv (ok := (fun k_ => ((P0_ k_ ∨ P1_0_ k_ ∨ P1_1_ k_) ∨ w.heap.size ≤ k_) ∧ k_ ≠ gb1168 ∧ k_ ≠ gb1176)) (by (with_reducible repeat (first | apply Kd.V_alloc | apply Kd.V_drewN | apply Kd.V_drew)); exact Kd.V_mono HO_10.out (fun _ hk => ⟨⟨hk.1.1, ⟨hk.1.2.2, hk.2⟩⟩, hk.1.2.1⟩)) hg hat); replace HO_1169000 := Aside0.mk (Kd.V_afterv (ok := (fun k_ => ((P0_ k_ ∨ P1_0_ k_ ∨ P1_1_ k_) ∨ w.heap.size ≤ k_) ∧ k_ ≠ gb1168 ∧ k_ ≠ gb1176)) (by (with_reducible repeat (first | apply Kd.V_alloc | apply Kd.V_drewN | apply Kd.V_drew)); exact Kd.V_mono HO_1169000.out (fun _ hk => ⟨⟨hk.1.1, ⟨hk.1.2.2, hk.2⟩⟩, hk.1.2.1⟩)) hg hat); replace HO_1169001 := Aside0.mk (Kd.V_afterv (ok := (fun k_ => ((P0_ k_ ∨ P1_0_ k_ ∨ P1_1_ k_) ∨ w.heap.size ≤ k_) ∧ k_ ≠ gb1168 ∧ k_ ≠ gb1176)) (by (with_reducible repeat (first | apply Kd.V_alloc | apply Kd.V_drewN | apply Kd.V_drew)); exact Kd.V_mono HO_1169001.out (fun _ hk => ⟨⟨hk.1.1, ⟨hk.1.2.2, hk.2⟩⟩, hk.1.2.1⟩)) hg hat); replace BK1168 := Aside0.mk (blk_grown (kk_ BK1168) hg (Kd.N_away HO_5.out (fun _ hk => hk.1.2))); replace HL1175_0 := Aside0.mk (Kd.V_afterv (ok := (fun k_ => ((P0_ k_ ∨ P1_0_ k_ ∨ P1_1_ k_) ∨ w.heap.size ≤ k_) ∧ k_ ≠ gb1168 ∧ k_ ≠ gb1176)) (by (with_reducible repeat (first | apply Kd.V_alloc | apply Kd.V_drewN | apply Kd.V_drew)); exact Kd.V_mono HL1175_0.out (fun _ hk => ⟨⟨hk.1.1, ⟨hk.1.2.2, hk.2⟩⟩, hk.1.2.1⟩)) hg hat); replace HL1175_1 := Aside0.mk (Kd.V_afterv (ok := (fun k_ => ((P0_ k_ ∨ P1_0_ k_ ∨ P1_1_ k_) ∨ w.heap.size ≤ k_) ∧ k_ ≠ gb1168 ∧ k_ ≠ gb1176)) (by (with_reducible repeat (first | apply Kd.V_alloc | apply Kd.V_drewN | apply Kd.V_drew)); exact Kd.V_mono HL1175_1.out (fun _ hk => ⟨⟨hk.1.1, ⟨hk.1.2.2, hk.2⟩⟩, hk.1.2.1⟩)) hg hat); replace BK1176 := Aside0.mk (blk_grown (kk_ BK1176) hg (Kd.N_away HO_5.out (fun _ hk => hk.2))); replace HB := Aside0.mk hb; have HO1180 := Aside0.mk ho; clear HO_5; clear ho hb hg hat))
          go_roundg k1
          case measure => have := HK1.out; omega
          case rel => exact ⟨(y1178), (true), (wrap64 (x12_1 + 1)), qc_, qc_, H', ⟨by have := HK1.out; omega⟩, ⟨by (with_reducible repeat (first | apply Kd.N_alloc | apply Kd.N_drewN | apply Kd.N_drew)); exact Kd.N_mono HO1180.out (fun _ hk => ⟨hk.1, hk.2.1⟩)⟩, ⟨by (with_reducible repeat (first | apply Kd.V_alloc | apply Kd.V_drewN | apply Kd.V_drew)); exact Kd.V_mono HO_10.out (fun _ hk => ⟨hk.1.1, ⟨hk.2, hk.1.2.1⟩⟩)⟩, ⟨by (with_reducible repeat (first | apply Kd.V_alloc | apply Kd.V_drewN | apply Kd.V_drew)); exact Kd.V_mono HO_1169000.out (fun _ hk => ⟨hk.1.1, ⟨hk.2, hk.1.2.1⟩⟩)⟩, ⟨by (with_reducible repeat (first | apply Kd.V_alloc | apply Kd.V_drewN | apply Kd.V_drew)); exact Kd.V_mono HO_1169001.out (fun _ hk => ⟨hk.1.1, ⟨hk.2, hk.1.2.1⟩⟩)⟩, ⟨(kk_ BK1168)⟩, ⟨hB_⟩⟩
        · replace c10 := Bool.eq_false_iff.mpr c10
          subst c10
          have H1 : (if x6_1 = true then (if x5_1.length < 2932031007402 then (spec_l10Insert.l0 k1 (x5_1 ++ [(⟨(rd_T33 l0 x12_1).f0, (rd_T33 l0 x12_1).f1⟩ : S33)]) x6_1 l0 (l0.length : Int) (wrap64 (x12_1 + 1)) l1_0 l1_1) else (none)) else ((spec_l03Before.f k1 l1_0 l1_1 ((rd_T33 l0 x12_1).f0) ((rd_T33 l0 x12_1).f1)).bind fun t1184 => (if t1184 = true then (if x5_1.length < 2932031007402 then ((some (x5_1 ++ [(⟨l1_0, l1_1⟩ : S33)] : List (S33))).bind fun y1185 => (if y1185.length < 2932031007402 then (spec_l10Insert.l0 k1 (y1185 ++ [(⟨(rd_T33 l0 x12_1).f0, (rd_T33 l0 x12_1).f1⟩ : S33)]) true l0 (l0.length : Int) (wrap64 (x12_1 + 1)) l1_0 l1_1) else (none))) else (none)) else (if x5_1.length < 2932031007402 then (spec_l10Insert.l0 k1 (x5_1 ++ [(⟨(rd_T33 l0 x12_1).f0, (rd_T33 l0 x12_1).f1⟩ : S33)]) x6_1 l0 (l0.length : Int) (wrap64 (x12_1 + 1)) l1_0 l1_1) else (none))))) = some r := by rw [if_neg (show ¬ (false = true) by decide)] at H; exact H
          clear H
          have H := H1
          clear H1
          by_cases c19 : x6_1 = true
          · subst c19
            rw [if_pos rfl] at H
            have c20 := cp_ H
            replace H := ca_ H
            have LMc20 := Aside0.mk c20
            clear c20
            obtain ⟨y1181, hy1181⟩ : ∃ y_ : List (S33), y_ = (x5_1 ++ [(⟨(rd_T33 l0 x12_1).f0, (rd_T33 l0 x12_1).f1⟩ : S33)]) := ⟨_, rfl⟩
            replace H : (spec_l10Insert.l0 k1 y1181 true l0 (l0.length : Int) (wrap64 (x12_1 + 1)) l1_0 l1_1) = some r := by first | (rw [hy1181]; exact H) | exact H
            have Ny1181 := Aside0.mk hy1181
            clear hy1181
            have H' := Aside0.mk H
            clear H
            have p1175 : 0 ≤ (x12_1 : Int) := of_decide_eq_true qe_
            have q1175 : x12_1 < (l0.length : Int) := of_decide_eq_true qe_
            obtain ⟨ad1175, A1175_0, c1175_0, A1175_1, c1175_1, e1175, hx1175_0, hx1175_1, hl1175_0, hi1175_0, hl1175_1, hi1175_1⟩ := at_T33 (Kd.V_reads' HO_10.out).2.2 x12_1 p1175 q1175
            cases e1175
            obtain ⟨ce1175, hce1175, hMe1175, hcc1175⟩ := Kd.V_get HO_10.out z33 x12_1 p1175 (by first | exact q1175 | exact of_decide_eq_true qe_ | (have e_ := (Kd.V_reads' HO_10.out).1; omega))
            obtain ⟨ua1175_0, uc1175_0, ua1175_1, uc1175_1, rfl, ul1175_0, ge1175_0, ul1175_1, ge1175_1⟩ := k33_openF hMe1175
            have hv1175_0 := hcc1175 0 _ rfl
            rw [Nat.add_zero] at hv1175_0
            replace hv1175_0 := Option.some.inj (hv1175_0.symm.trans hx1175_0)
            injection hv1175_0 with hva_ hvn_ hvc_
            rw [hva_] at ge1175_0
            rw [hvc_] at ul1175_0
            have HL1175_0 := Aside0.mk (show Kd.V (Kd.int .i64) 3 _ w.heap.size _ _ ((rd_T33 l0 x12_1).f0) from Kd.V_mk ul1175_0 ge1175_0)
            clear hva_ hvn_ hvc_ ge1175_0 ul1175_0
            have hv1175_1 := hcc1175 1 _ rfl
            rw [add_field _ _ 1 (by omega)] at hv1175_1
            replace hv1175_1 := Option.some.inj (hv1175_1.symm.trans hx1175_1)
            injection hv1175_1 with hva_ hvn_ hvc_
            rw [hva_] at ge1175_1
            rw [hvc_] at ul1175_1
            have HL1175_1 := Aside0.mk (show Kd.V (Kd.int .i64) 3 _ w.heap.size _ _ ((rd_T33 l0 x12_1).f1) from Kd.V_mk ul1175_1 ge1175_1)
            clear hva_ hvn_ hvc_ ge1175_1 ul1175_1
            clear hcc1175 hce1175
            have HR1175_0 := Aside0.mk hi1175_0
            have HC1175_0 := Aside0.mk hl1175_0
            clear hi1175_0 hl1175_0
            have HR1175_1 := Aside0.mk hi1175_1
            have HC1175_1 := Aside0.mk hl1175_1
            clear hi1175_1 hl1175_1
            replace p1175 := eq_true p1175
            replace q1175 := eq_true q1175
            go_wp2_with (first | ((with_reducible refine gate_dst (N := 8) rfl ?_); refine bx_ 8 #[.slice none 0 0, .slice none 0 0] 33 ?_; intro gb1176 hg w21 hbox hb; replace HO_5 := Aside0.mk (Kd.N_below (Kd.N_elderB (by (with_reducible repeat (first | apply Kd.N_alloc | apply Kd.N_drewN | apply Kd.N_drew)); exact HO_5.out) gb1176 (Nat.le_of_eq hg.symm)) hb); replace HO_10 := Aside0.mk (Kd.V_below (Kd.V_elderB (by (with_reducible repeat (first | apply Kd.V_alloc | apply Kd.V_drewN | apply Kd.V_drew)); exact HO_10.out) gb1176 (Nat.le_of_eq hg.symm)) hb); replace HO_1169000 := Aside0.mk (Kd.V_below (Kd.V_elderB (by (with_reducible repeat (first | apply Kd.V_alloc | apply Kd.V_drewN | apply Kd.V_drew)); exact HO_1169000.out) gb1176 (Nat.le_of_eq hg.symm)) hb); replace HO_1169001 := Aside0.mk (Kd.V_below (Kd.V_elderB (by (with_reducible repeat (first | apply Kd.V_alloc | apply Kd.V_drewN | apply Kd.V_drew)); exact HO_1169001.out) gb1176 (Nat.le_of_eq hg.symm)) hb); replace HL1175_0 := Aside0.mk (Kd.V_below (Kd.V_elderB (by (with_reducible repeat (first | apply Kd.V_alloc | apply Kd.V_drewN | apply Kd.V_drew)); exact HL1175_0.out) gb1176 (Nat.le_of_eq hg.symm)) hb); replace HL1175_1 := Aside0.mk (Kd.V_below (Kd.V_elderB (by (with_reducible repeat (first | apply Kd.V_alloc | apply Kd.V_drewN | apply Kd.V_drew)); exact HL1175_1.out) gb1176 (Nat.le_of_eq hg.symm)) hb); replace HR1175_0 := Aside0.mk (Kd.C_below (by repeat (first | (with_reducible exact HR1175_0.out) | (with_reducible refine Kd.C_alloc ?_ _) | (with_reducible refine Kd.C_drewN ?_ _) | (with_reducible refine Kd.C_drew ?_) | exact HR1175_0.out)) hb); replace HR1175_1 := Aside0.mk (Kd.C_below (by repeat (first | (with_reducible exact HR1175_1.out) | (with_reducible refine Kd.C_alloc ?_ _) | (with_reducible refine Kd.C_drewN ?_ _) | (with_reducible refine Kd.C_drew ?_) | exact HR1175_1.out)) hb); have BK1176 := Aside0.mk hbox; have GW1176 := gw_ w hg; have GE1176 := GW1176; replace HB := b1_ hb; have NB1168_1176 := gN_ BK1168 hg; have NB1176_1168 := gP_ BK1168 hg; replace BK1168 := bb_ BK1168 hb; clear hb hbox hg; have hnb22 := NB1176_1168.out; have hnc22 := NB1168_1176.out; obtain ⟨hcz23_0, hcz23_1, hfz23_0, hfz23_1⟩ := c2_ BK1176; obtain ⟨hcz24_0, hcz24_1, hfz24_0, hfz24_1⟩ := c2_ BK1168) | ((with_reducible refine gate_callee (f := 125) rfl ?_); refine gL_ (some 18) Try.func125 #[.agg #[.slice A1175_0 ((rd_T33 l0 x12_1).f0).length c1175_0, .slice A1175_1 ((rd_T33 l0 x12_1).f1).length c1175_1], .agg #[.slice A1_0 l1_0.length c1_0, .slice A1_1 l1_1.length c1_1]] rfl qa_ ?_; (with_reducible refine (spec_SameSurface.calls k1 _ _ ((rd_T33 l0 x12_1).f0) _ _ ((rd_T33 l0 x12_1).f1) _ _ l1_0 _ _ l1_1 false _ ?side1 ?side2 ?side3 ?side4 ?side5 ?side6 ?side7 ?side8 A9.out).mono ?_); (case side1 => repeat (first | exact ((Kd.V_reads' (by (with_reducible repeat (first | apply Kd.V_alloc | apply Kd.V_drewN | apply Kd.V_drew)); exact (Kd.V_mono (Kd.V_far (p := ⟨gb1176, 1, none⟩) (Kd.V_far (p := ⟨gb1176, 0, none⟩) (Kd.V_mono HL1175_0.out (fun k_ hk => (⟨hk, hk.2⟩ : _ ∧ k_ ≠ gb1176))) (fun _ hk => hk.2) (.slice A1175_0 ((rd_T33 l0 x12_1).f0).length c1175_0)) (fun _ hk => hk.2) (.slice A1175_1 ((rd_T33 l0 x12_1).f1).length c1175_1)) (fun _ h_ => h_.1)))).2.2) | (with_reducible refine Kd.C_alloc ?_ _) | (with_reducible refine Kd.C_drewN ?_ _) | (with_reducible refine Kd.C_drew ?_))); (case side2 => exact HC1175_0.out); (case side3 => repeat (first | exact ((Kd.V_reads' (by (with_reducible repeat (first | apply Kd.V_alloc | apply Kd.V_drewN | apply Kd.V_drew)); exact (Kd.V_mono (Kd.V_far (p := ⟨gb1176, 1, none⟩) (Kd.V_far (p := ⟨gb1176, 0, none⟩) (Kd.V_mono HL1175_1.out (fun k_ hk => (⟨hk, hk.2⟩ : _ ∧ k_ ≠ gb1176))) (fun _ hk => hk.2) (.slice A1175_0 ((rd_T33 l0 x12_1).f0).length c1175_0)) (fun _ hk => hk.2) (.slice A1175_1 ((rd_T33 l0 x12_1).f1).length c1175_1)) (fun _ h_ => h_.1)))).2.2) | (with_reducible refine Kd.C_alloc ?_ _) | (with_reducible refine Kd.C_drewN ?_ _) | (with_reducible refine Kd.C_drew ?_))); (case side4 => exact HC1175_1.out); (case side5 => refine (Kd.V_reads' (e := 3) (base := w.heap.size) (ok := fun k_ => ((((P0_ k_ ∨ P1_0_ k_ ∨ P1_1_ k_) ∨ w.heap.size ≤ k_) ∧ (some k_ ≠ (u5 : Value).ownBlock ∧ k_ ≠ gb1168)) ∧ k_ ≠ gb1176)) (n := l1_0.length) (c := c1_0) ?_).2.2; exact (by (with_reducible repeat (first | apply Kd.V_alloc | apply Kd.V_drewN | apply Kd.V_drew)); exact (Kd.V_mono (Kd.V_far (p := ⟨gb1176, 1, none⟩) (Kd.V_far (p := ⟨gb1176, 0, none⟩) (Kd.V_mono HO_1169000.out (fun k_ hk => (⟨hk, hk.2⟩ : _ ∧ k_ ≠ gb1176))) (fun _ hk => hk.2) (.slice A1175_0 ((rd_T33 l0 x12_1).f0).length c1175_0)) (fun _ hk => hk.2) (.slice A1175_1 ((rd_T33 l0 x12_1).f1).length c1175_1)) (fun _ h_ => h_.1)))); (case side6 => exact (Kd.V_reads' HO_1169000.out).2.1); (case side7 => refine (Kd.V_reads' (e := 3) (base := w.heap.size) (ok := fun k_ => ((((P0_ k_ ∨ P1_0_ k_ ∨ P1_1_ k_) ∨ w.heap.size ≤ k_) ∧ (some k_ ≠ (u5 : Value).ownBlock ∧ k_ ≠ gb1168)) ∧ k_ ≠ gb1176)) (n := l1_1.length) (c := c1_1) ?_).2.2; exact (by (with_reducible repeat (first | apply Kd.V_alloc | apply Kd.V_drewN | apply Kd.V_drew)); exact (Kd.V_mono (Kd.V_far (p := ⟨gb1176, 1, none⟩) (Kd.V_far (p := ⟨gb1176, 0, none⟩) (Kd.V_mono HO_1169001.out (fun k_ hk => (⟨hk, hk.2⟩ : _ ∧ k_ ≠ gb1176))) (fun _ hk => hk.2) (.slice A1175_0 ((rd_T33 l0 x12_1).f0).length c1175_0)) (fun _ hk => hk.2) (.slice A1175_1 ((rd_T33 l0 x12_1).f1).length c1175_1)) (fun _ h_ => h_.1)))); (case side8 => exact (Kd.V_reads' HO_1169001.out).2.1); rintro e w25 ⟨rfl, hb⟩; refine ⟨_, rfl, ?_⟩; replace HO_5 := Aside0.mk (Kd.N_below (by (with_reducible repeat (first | apply Kd.N_alloc | apply Kd.N_drewN | apply Kd.N_drew)); exact (Kd.N_mono (Kd.N_far (p := ⟨gb1176, 1, none⟩) (Kd.N_far (p := ⟨gb1176, 0, none⟩) (Kd.N_mono HO_5.out (fun k_ hk => (⟨hk, hk.2⟩ : _ ∧ k_ ≠ gb1176))) (fun _ hk => hk.2) (.slice A1175_0 ((rd_T33 l0 x12_1).f0).length c1175_0)) (fun _ hk => hk.2) (.slice A1175_1 ((rd_T33 l0 x12_1).f1).length c1175_1)) (fun _ h_ => h_.1))) hb); replace HO_10 := Aside0.mk (Kd.V_below (by (with_reducible repeat (first | apply Kd.V_alloc | apply Kd.V_drewN | apply Kd.V_drew)); exact (Kd.V_mono (Kd.V_far (p := ⟨gb1176, 1, none⟩) (Kd.V_far (p := ⟨gb1176, 0, none⟩) (Kd.V_mono HO_10.out (fun k_ hk => (⟨hk, hk.2⟩ : _ ∧ k_ ≠ gb1176))) (fun _ hk => hk.2) (.slice A1175_0 ((rd_T33 l0 x12_1).f0).length c1175_0)) (fun _ hk => hk.2) (.slice A1175_1 ((rd_T33 l0 x12_1).f1).length c1175_1)) (fun _ h_ => h_.1))) hb); replace HO_1169000 := Aside0.mk (Kd.V_below (by (with_reducible repeat (first | apply Kd.V_alloc | apply Kd.V_drewN | apply Kd.V_drew)); exact (Kd.V_mono (Kd.V_far (p := ⟨gb1176, 1, none⟩) (Kd.V_far (p := ⟨gb1176, 0, none⟩) (Kd.V_mono HO_1169000.out (fun k_ hk => (⟨hk, hk.2⟩ : _ ∧ k_ ≠ gb1176))) (fun _ hk => hk.2) (.slice A1175_0 ((rd_T33 l0 x12_1).f0).length c1175_0)) (fun _ hk => hk.2) (.slice A1175_1 ((rd_T33 l0 x12_1).f1).length c1175_1)) (fun _ h_ => h_.1))) hb); replace HO_1169001 := Aside0.mk (Kd.V_below (by (with_reducible repeat (first | apply Kd.V_alloc | apply Kd.V_drewN | apply Kd.V_drew)); exact (Kd.V_mono (Kd.V_far (p := ⟨gb1176, 1, none⟩) (Kd.V_far (p := ⟨gb1176, 0, none⟩) (Kd.V_mono HO_1169001.out (fun k_ hk => (⟨hk, hk.2⟩ : _ ∧ k_ ≠ gb1176))) (fun _ hk => hk.2) (.slice A1175_0 ((rd_T33 l0 x12_1).f0).length c1175_0)) (fun _ hk => hk.2) (.slice A1175_1 ((rd_T33 l0 x12_1).f1).length c1175_1)) (fun _ h_ => h_.1))) hb); replace BK1168 := Aside0.mk (blk_below (g := gb1168) (o := .cells #[.slice A1_0 l1_0.length c1_0, .slice A1_1 l1_1.length c1_1] 33 (0, 0)) (by (with_reducible repeat (first | refine blk_drewN ?_ _ | refine blk_drew ?_ | refine blk_alloc ?_ _)); refine blk_far ?_ NB1168_1176.out _; (with_reducible repeat (first | refine blk_drewN ?_ _ | refine blk_drew ?_ | refine blk_alloc ?_ _)); refine blk_far ?_ NB1168_1176.out _; (with_reducible repeat (first | refine blk_drewN ?_ _ | refine blk_drew ?_ | refine blk_alloc ?_ _)); exact BK1168.out) hb); replace HR1175_0 := Aside0.mk (Kd.C_below ((Kd.V_reads' (by (with_reducible repeat (first | apply Kd.V_alloc | apply Kd.V_drewN | apply Kd.V_drew)); exact (Kd.V_mono (Kd.V_far (p := ⟨gb1176, 1, none⟩) (Kd.V_far (p := ⟨gb1176, 0, none⟩) (Kd.V_mono HL1175_0.out (fun k_ hk => (⟨hk, hk.2⟩ : _ ∧ k_ ≠ gb1176))) (fun _ hk => hk.2) (.slice A1175_0 ((rd_T33 l0 x12_1).f0).length c1175_0)) (fun _ hk => hk.2) (.slice A1175_1 ((rd_T33 l0 x12_1).f1).length c1175_1)) (fun _ h_ => h_.1)))).2.2) hb); replace HL1175_0 := Aside0.mk (Kd.V_below (by (with_reducible repeat (first | apply Kd.V_alloc | apply Kd.V_drewN | apply Kd.V_drew)); exact (Kd.V_mono (Kd.V_far (p := ⟨gb1176, 1, none⟩) (Kd.V_far (p := ⟨gb1176, 0, none⟩) (Kd.V_mono HL1175_0.out (fun k_ hk => (⟨hk, hk.2⟩ : _ ∧ k_ ≠ gb1176))) (fun _ hk => hk.2) (.slice A1175_0 ((rd_T33 l0 x12_1).f0).length c1175_0)) (fun _ hk => hk.2) (.slice A1175_1 ((rd_T33 l0 x12_1).f1).length c1175_1)) (fun _ h_ => h_.1))) hb); replace HR1175_1 := Aside0.mk (Kd.C_below ((Kd.V_reads' (by (with_reducible repeat (first | apply Kd.V_alloc | apply Kd.V_drewN | apply Kd.V_drew)); exact (Kd.V_mono (Kd.V_far (p := ⟨gb1176, 1, none⟩) (Kd.V_far (p := ⟨gb1176, 0, none⟩) (Kd.V_mono HL1175_1.out (fun k_ hk => (⟨hk, hk.2⟩ : _ ∧ k_ ≠ gb1176))) (fun _ hk => hk.2) (.slice A1175_0 ((rd_T33 l0 x12_1).f0).length c1175_0)) (fun _ hk => hk.2) (.slice A1175_1 ((rd_T33 l0 x12_1).f1).length c1175_1)) (fun _ h_ => h_.1)))).2.2) hb); replace HL1175_1 := Aside0.mk (Kd.V_below (by (with_reducible repeat (first | apply Kd.V_alloc | apply Kd.V_drewN | apply Kd.V_drew)); exact (Kd.V_mono (Kd.V_far (p := ⟨gb1176, 1, none⟩) (Kd.V_far (p := ⟨gb1176, 0, none⟩) (Kd.V_mono HL1175_1.out (fun k_ hk => (⟨hk, hk.2⟩ : _ ∧ k_ ≠ gb1176))) (fun _ hk => hk.2) (.slice A1175_0 ((rd_T33 l0 x12_1).f0).length c1175_0)) (fun _ hk => hk.2) (.slice A1175_1 ((rd_T33 l0 x12_1).f1).length c1175_1)) (fun _ h_ => h_.1))) hb); replace BK1176 := Aside0.mk (blk_below (g := gb1176) (o := .cells #[.slice A1175_0 ((rd_T33 l0 x12_1).f0).length c1175_0, .slice A1175_1 ((rd_T33 l0 x12_1).f1).length c1175_1] 33 (0, 0)) qp_ hb); replace HB := b1_ hb; clear hb; have hcz26_0 : w25.cell? ⟨gb1176, 0, none⟩ = some (.slice A1175_0 ((rd_T33 l0 x12_1).f0).length c1175_0) := cz0_ BK1176; have hcz26_1 : w25.cell? ⟨gb1176, 1, none⟩ = some (.slice A1175_1 ((rd_T33 l0 x12_1).f1).length c1175_1) := cz1_ BK1176; have hfz26_0 := blk_frozen BK1176.out 0; have hfz26_1 := blk_frozen BK1176.out 1) | ((with_reducible refine gate_builtin (b := .append) (xs := #[.tmp 30, .tmp 32]) rfl ?_); at_builtin; refine Kd.N_append k33 (w0 := w) w.heap.size rfl (.tmp 30) (.tmp 32) 25 33 (.agg #[(.slice none 0 0), (.slice none 0 0)]) 48 rfl Try.underlying25 info33 rfl (by decide) (by omega) u5 x5_1 (⟨(rd_T33 l0 x12_1).f0, (rd_T33 l0 x12_1).f1⟩ : S33) [.slice A1175_0 ((rd_T33 l0 x12_1).f0).length c1175_0, .slice A1175_1 ((rd_T33 l0 x12_1).f1).length c1175_1] (fun k_ => ((P0_ k_ ∨ P1_0_ k_ ∨ P1_1_ k_) ∨ w.heap.size ≤ k_) ∧ k_ ≠ gb1168 ∧ k_ ≠ gb1176) (fun k_ => ((fun k_ => ((P0_ k_ ∨ P1_0_ k_ ∨ P1_1_ k_) ∨ w.heap.size ≤ k_) ∧ k_ ≠ gb1168 ∧ k_ ≠ gb1176)) k_ ∧ some k_ ≠ (u5 : Value).ownBlock) rfl rfl ?aP (fun _ hk => hk) ?aF ?aO ?aB ?aS ?aL ?_; (case aP => exact (k33_mkF _ _ (⟨(rd_T33 l0 x12_1).f0, (rd_T33 l0 x12_1).f1⟩ : S33) (Kd.V_reads' (Kd.V_mono (ok' := (fun k_ => ((fun k_ => ((P0_ k_ ∨ P1_0_ k_ ∨ P1_1_ k_) ∨ w.heap.size ≤ k_) ∧ k_ ≠ gb1168 ∧ k_ ≠ gb1176)) k_ ∧ some k_ ≠ (u5 : Value).ownBlock)) (HL1175_0.out) (fun k_ hk => ⟨⟨hk.1.1, ⟨hk.1.2.2, hk.2⟩⟩, hk.1.2.1⟩))).2.1 (Kd.V_F (Kd.V_mono (ok' := (fun k_ => ((fun k_ => ((P0_ k_ ∨ P1_0_ k_ ∨ P1_1_ k_) ∨ w.heap.size ≤ k_) ∧ k_ ≠ gb1168 ∧ k_ ≠ gb1176)) k_ ∧ some k_ ≠ (u5 : Value).ownBlock)) (HL1175_0.out) (fun k_ hk => ⟨⟨hk.1.1, ⟨hk.1.2.2, hk.2⟩⟩, hk.1.2.1⟩))) (Kd.V_reads' (Kd.V_mono (ok' := (fun k_ => ((fun k_ => ((P0_ k_ ∨ P1_0_ k_ ∨ P1_1_ k_) ∨ w.heap.size ≤ k_) ∧ k_ ≠ gb1168 ∧ k_ ≠ gb1176)) k_ ∧ some k_ ≠ (u5 : Value).ownBlock)) (HL1175_1.out) (fun k_ hk => ⟨⟨hk.1.1, ⟨hk.1.2.2, hk.2⟩⟩, hk.1.2.1⟩))).2.1 (Kd.V_F (Kd.V_mono (ok' := (fun k_ => ((fun k_ => ((P0_ k_ ∨ P1_0_ k_ ∨ P1_1_ k_) ∨ w.heap.size ≤ k_) ∧ k_ ≠ gb1168 ∧ k_ ≠ gb1176)) k_ ∧ some k_ ≠ (u5 : Value).ownBlock)) (HL1175_1.out) (fun k_ hk => ⟨⟨hk.1.1, ⟨hk.1.2.2, hk.2⟩⟩, hk.1.2.1⟩))))); (case aB => exact hB_); (case aF => exact (fun k_ hk => ⟨(.inr (Nat.le_trans (below_size hB_) hk)), Kd.freshB (kk_ BK1168) k_ hk, Kd.freshB (kk_ BK1176) k_ hk⟩)); (case aO => exact (by (with_reducible repeat (first | apply Kd.N_alloc | apply Kd.N_drewN | apply Kd.N_drew)); exact Kd.N_mono HO_5.out (fun _ hk => ⟨hk.1.1, ⟨hk.1.2, hk.2⟩⟩))); (case aS => exact (below_size hB_)); (case aL => have := LMc20.out; omega); intro v1182 w27 ho hb hg hat; rw [← Ny1181.out] at ho; replace HO_10 := Aside0.mk (Kd.V_afterv (ok := (fun k_ => ((P0_ k_ ∨ P1_0_ k_ ∨ P1_1_ k_) ∨ w.heap.size ≤ k_) ∧ k_ ≠ gb1168 ∧ k_ ≠ gb1176)) (by (with_reducible repeat (first | apply Kd.V_alloc | apply Kd.V_drewN | apply Kd.V_drew)); exact Kd.V_mono HO_10.out (fun _ hk => ⟨⟨hk.1.1, ⟨hk.1.2.2, hk.2⟩⟩, hk.1.2.1⟩)) hg hat); replace HO_1169000 := Aside0.mk (Kd.V_afterv (ok := (fun k_ => ((P0_ k_ ∨ P1_0_ k_ ∨ P1_1_ k_) ∨ w.heap.size ≤ k_) ∧ k_ ≠ gb1168 ∧ k_ ≠ gb1176)) (by (with_reducible repeat (first | apply Kd.V_alloc | apply Kd.V_drewN | apply Kd.V_drew)); exact Kd.V_mono HO_1169000.out (fun _ hk => ⟨⟨hk.1.1, ⟨hk.1.2.2, hk.2⟩⟩, hk.1.2.1⟩)) hg hat); replace HO_1169001 := Aside0.mk (Kd.V_afterv (ok := (fun k_ => ((P0_ k_ ∨ P1_0_ k_ ∨ P1_1_ k_) ∨ w.heap.size ≤ k_) ∧ k_ ≠ gb1168 ∧ k_ ≠ gb1176)) (by (with_reducible repeat (first | apply Kd.V_alloc | apply Kd.V_drewN | apply Kd.V_drew)); exact Kd.V_mono HO_1169001.out (fun _ hk => ⟨⟨hk.1.1, ⟨hk.1.2.2, hk.2⟩⟩, hk.1.2.1⟩)) hg hat); replace BK1168 := Aside0.mk (blk_grown (kk_ BK1168) hg (Kd.N_away HO_5.out (fun _ hk => hk.1.2))); replace HL1175_0 := Aside0.mk (Kd.V_afterv (ok := (fun k_ => ((P0_ k_ ∨ P1_0_ k_ ∨ P1_1_ k_) ∨ w.heap.size ≤ k_) ∧ k_ ≠ gb1168 ∧ k_ ≠ gb1176)) (by (with_reducible repeat (first | apply Kd.V_alloc | apply Kd.V_drewN | apply Kd.V_drew)); exact Kd.V_mono HL1175_0.out (fun _ hk => ⟨⟨hk.1.1, ⟨hk.1.2.2, hk.2⟩⟩, hk.1.2.1⟩)) hg hat); replace HL1175_1 := Aside0.mk (Kd.V_afterv (ok := (fun k_ => ((P0_ k_ ∨ P1_0_ k_ ∨ P1_1_ k_) ∨ w.heap.size ≤ k_) ∧ k_ ≠ gb1168 ∧ k_ ≠ gb1176)) (by (with_reducible repeat (first | apply Kd.V_alloc | apply Kd.V_drewN | apply Kd.V_drew)); exact Kd.V_mono HL1175_1.out (fun _ hk => ⟨⟨hk.1.1, ⟨hk.1.2.2, hk.2⟩⟩, hk.1.2.1⟩)) hg hat); replace BK1176 := Aside0.mk (blk_grown (kk_ BK1176) hg (Kd.N_away HO_5.out (fun _ hk => hk.2))); replace HB := Aside0.mk hb; have HO1183 := Aside0.mk ho; clear HO_5; clear ho hb hg hat))
            go_roundg k1
            case measure => have := HK1.out; omega
            case rel => exact ⟨(y1181), (true), (wrap64 (x12_1 + 1)), qc_, qc_, H', ⟨by have := HK1.out; omega⟩, ⟨by (with_reducible repeat (first | apply Kd.N_alloc | apply Kd.N_drewN | apply Kd.N_drew)); exact Kd.N_mono HO1183.out (fun _ hk => ⟨hk.1, hk.2.1⟩)⟩, ⟨by (with_reducible repeat (first | apply Kd.V_alloc | apply Kd.V_drewN | apply Kd.V_drew)); exact Kd.V_mono HO_10.out (fun _ hk => ⟨hk.1.1, ⟨hk.2, hk.1.2.1⟩⟩)⟩, ⟨by (with_reducible repeat (first | apply Kd.V_alloc | apply Kd.V_drewN | apply Kd.V_drew)); exact Kd.V_mono HO_1169000.out (fun _ hk => ⟨hk.1.1, ⟨hk.2, hk.1.2.1⟩⟩)⟩, ⟨by (with_reducible repeat (first | apply Kd.V_alloc | apply Kd.V_drewN | apply Kd.V_drew)); exact Kd.V_mono HO_1169001.out (fun _ hk => ⟨hk.1.1, ⟨hk.2, hk.1.2.1⟩⟩)⟩, ⟨(kk_ BK1168)⟩, ⟨hB_⟩⟩
          · replace c19 := Bool.eq_false_iff.mpr c19
            subst c19
            have H1 : ((spec_l03Before.f k1 l1_0 l1_1 ((rd_T33 l0 x12_1).f0) ((rd_T33 l0 x12_1).f1)).bind fun t1184 => (if t1184 = true then (if x5_1.length < 2932031007402 then ((some (x5_1 ++ [(⟨l1_0, l1_1⟩ : S33)] : List (S33))).bind fun y1185 => (if y1185.length < 2932031007402 then (spec_l10Insert.l0 k1 (y1185 ++ [(⟨(rd_T33 l0 x12_1).f0, (rd_T33 l0 x12_1).f1⟩ : S33)]) true l0 (l0.length : Int) (wrap64 (x12_1 + 1)) l1_0 l1_1) else (none))) else (none)) else (if x5_1.length < 2932031007402 then (spec_l10Insert.l0 k1 (x5_1 ++ [(⟨(rd_T33 l0 x12_1).f0, (rd_T33 l0 x12_1).f1⟩ : S33)]) false l0 (l0.length : Int) (wrap64 (x12_1 + 1)) l1_0 l1_1) else (none)))) = some r := by rw [if_neg (show ¬ (false = true) by decide)] at H; exact H
            clear H
            have H := H1
            clear H1
            obtain ⟨t1184, A28, H⟩ := bi_ H
            by_cases c29 : t1184 = true
            · subst c29
              rw [if_pos rfl] at H
              have c30 := cp_ H
              replace H := ca_ H
              have LMc30 := Aside0.mk c30
              clear c30
              obtain ⟨y1185, hy1185⟩ : ∃ y_ : List (S33), y_ = (x5_1 ++ [(⟨l1_0, l1_1⟩ : S33)]) := ⟨_, rfl⟩
              replace H : (if y1185.length < 2932031007402 then (spec_l10Insert.l0 k1 (y1185 ++ [(⟨(rd_T33 l0 x12_1).f0, (rd_T33 l0 x12_1).f1⟩ : S33)]) true l0 (l0.length : Int) (wrap64 (x12_1 + 1)) l1_0 l1_1) else (none)) = some r := by first | (rw [hy1185]; exact H) | exact H
              have Ny1185 := Aside0.mk hy1185
              clear hy1185
              have c31 := cp_ H
              replace H := ca_ H
              have LMc31 := Aside0.mk c31
              clear c31
              obtain ⟨y1188, hy1188⟩ : ∃ y_ : List (S33), y_ = (y1185 ++ [(⟨(rd_T33 l0 x12_1).f0, (rd_T33 l0 x12_1).f1⟩ : S33)]) := ⟨_, rfl⟩
              replace H : (spec_l10Insert.l0 k1 y1188 true l0 (l0.length : Int) (wrap64 (x12_1 + 1)) l1_0 l1_1) = some r := by first | (rw [hy1188]; exact H) | exact H
              have Ny1188 := Aside0.mk hy1188
              clear hy1188
              have H' := Aside0.mk H
              clear H
              have p1175 : 0 ≤ (x12_1 : Int) := of_decide_eq_true qe_
              have q1175 : x12_1 < (l0.length : Int) := of_decide_eq_true qe_
              obtain ⟨ad1175, A1175_0, c1175_0, A1175_1, c1175_1, e1175, hx1175_0, hx1175_1, hl1175_0, hi1175_0, hl1175_1, hi1175_1⟩ := at_T33 (Kd.V_reads' HO_10.out).2.2 x12_1 p1175 q1175
              cases e1175
              obtain ⟨ce1175, hce1175, hMe1175, hcc1175⟩ := Kd.V_get HO_10.out z33 x12_1 p1175 (by first | exact q1175 | exact of_decide_eq_true qe_ | (have e_ := (Kd.V_reads' HO_10.out).1; omega))
              obtain ⟨ua1175_0, uc1175_0, ua1175_1, uc1175_1, rfl, ul1175_0, ge1175_0, ul1175_1, ge1175_1⟩ := k33_openF hMe1175
              have hv1175_0 := hcc1175 0 _ rfl
              rw [Nat.add_zero] at hv1175_0
              replace hv1175_0 := Option.some.inj (hv1175_0.symm.trans hx1175_0)
              injection hv1175_0 with hva_ hvn_ hvc_
              rw [hva_] at ge1175_0
              rw [hvc_] at ul1175_0
              have HL1175_0 := Aside0.mk (show Kd.V (Kd.int .i64) 3 _ w.heap.size _ _ ((rd_T33 l0 x12_1).f0) from Kd.V_mk ul1175_0 ge1175_0)
              clear hva_ hvn_ hvc_ ge1175_0 ul1175_0
              have hv1175_1 := hcc1175 1 _ rfl
              rw [add_field _ _ 1 (by omega)] at hv1175_1
              replace hv1175_1 := Option.some.inj (hv1175_1.symm.trans hx1175_1)
              injection hv1175_1 with hva_ hvn_ hvc_
              rw [hva_] at ge1175_1
              rw [hvc_] at ul1175_1
              have HL1175_1 := Aside0.mk (show Kd.V (Kd.int .i64) 3 _ w.heap.size _ _ ((rd_T33 l0 x12_1).f1) from Kd.V_mk ul1175_1 ge1175_1)
              clear hva_ hvn_ hvc_ ge1175_1 ul1175_1
              clear hcc1175 hce1175
              have HR1175_0 := Aside0.mk hi1175_0
              have HC1175_0 := Aside0.mk hl1175_0
              clear hi1175_0 hl1175_0
              have HR1175_1 := Aside0.mk hi1175_1
              have HC1175_1 := Aside0.mk hl1175_1
              clear hi1175_1 hl1175_1
              replace p1175 := eq_true p1175
              replace q1175 := eq_true q1175
              go_wp2_with (first | ((with_reducible refine gate_dst (N := 8) rfl ?_); refine bx_ 8 #[.slice none 0 0, .slice none 0 0] 33 ?_; intro gb1176 hg w32 hbox hb; replace HO_5 := Aside0.mk (Kd.N_below (Kd.N_elderB (by (with_reducible repeat (first | apply Kd.N_alloc | apply Kd.N_drewN | apply Kd.N_drew)); exact HO_5.out) gb1176 (Nat.le_of_eq hg.symm)) hb); replace HO_10 := Aside0.mk (Kd.V_below (Kd.V_elderB (by (with_reducible repeat (first | apply Kd.V_alloc | apply Kd.V_drewN | apply Kd.V_drew)); exact HO_10.out) gb1176 (Nat.le_of_eq hg.symm)) hb); replace HO_1169000 := Aside0.mk (Kd.V_below (Kd.V_elderB (by (with_reducible repeat (first | apply Kd.V_alloc | apply Kd.V_drewN | apply Kd.V_drew)); exact HO_1169000.out) gb1176 (Nat.le_of_eq hg.symm)) hb); replace HO_1169001 := Aside0.mk (Kd.V_below (Kd.V_elderB (by (with_reducible repeat (first | apply Kd.V_alloc | apply Kd.V_drewN | apply Kd.V_drew)); exact HO_1169001.out) gb1176 (Nat.le_of_eq hg.symm)) hb); replace HL1175_0 := Aside0.mk (Kd.V_below (Kd.V_elderB (by (with_reducible repeat (first | apply Kd.V_alloc | apply Kd.V_drewN | apply Kd.V_drew)); exact HL1175_0.out) gb1176 (Nat.le_of_eq hg.symm)) hb); replace HL1175_1 := Aside0.mk (Kd.V_below (Kd.V_elderB (by (with_reducible repeat (first | apply Kd.V_alloc | apply Kd.V_drewN | apply Kd.V_drew)); exact HL1175_1.out) gb1176 (Nat.le_of_eq hg.symm)) hb); replace HR1175_0 := Aside0.mk (Kd.C_below (by repeat (first | (with_reducible exact HR1175_0.out) | (with_reducible refine Kd.C_alloc ?_ _) | (with_reducible refine Kd.C_drewN ?_ _) | (with_reducible refine Kd.C_drew ?_) | exact HR1175_0.out)) hb); replace HR1175_1 := Aside0.mk (Kd.C_below (by repeat (first | (with_reducible exact HR1175_1.out) | (with_reducible refine Kd.C_alloc ?_ _) | (with_reducible refine Kd.C_drewN ?_ _) | (with_reducible refine Kd.C_drew ?_) | exact HR1175_1.out)) hb); have BK1176 := Aside0.mk hbox; have GW1176 := gw_ w hg; have GE1176 := GW1176; replace HB := b1_ hb; have NB1168_1176 := gN_ BK1168 hg; have NB1176_1168 := gP_ BK1168 hg; replace BK1168 := bb_ BK1168 hb; clear hb hbox hg; have hnb33 := NB1176_1168.out; have hnc33 := NB1168_1176.out; obtain ⟨hcz34_0, hcz34_1, hfz34_0, hfz34_1⟩ := c2_ BK1176; obtain ⟨hcz35_0, hcz35_1, hfz35_0, hfz35_1⟩ := c2_ BK1168) | ((with_reducible refine gate_callee (f := 125) rfl ?_); refine gL_ (some 18) Try.func125 #[.agg #[.slice A1175_0 ((rd_T33 l0 x12_1).f0).length c1175_0, .slice A1175_1 ((rd_T33 l0 x12_1).f1).length c1175_1], .agg #[.slice A1_0 l1_0.length c1_0, .slice A1_1 l1_1.length c1_1]] rfl qa_ ?_; (with_reducible refine (spec_SameSurface.calls k1 _ _ ((rd_T33 l0 x12_1).f0) _ _ ((rd_T33 l0 x12_1).f1) _ _ l1_0 _ _ l1_1 false _ ?side1 ?side2 ?side3 ?side4 ?side5 ?side6 ?side7 ?side8 A9.out).mono ?_); (case side1 => repeat (first | exact ((Kd.V_reads' (by (with_reducible repeat (first | apply Kd.V_alloc | apply Kd.V_drewN | apply Kd.V_drew)); exact (Kd.V_mono (Kd.V_far (p := ⟨gb1176, 1, none⟩) (Kd.V_far (p := ⟨gb1176, 0, none⟩) (Kd.V_mono HL1175_0.out (fun k_ hk => (⟨hk, hk.2⟩ : _ ∧ k_ ≠ gb1176))) (fun _ hk => hk.2) (.slice A1175_0 ((rd_T33 l0 x12_1).f0).length c1175_0)) (fun _ hk => hk.2) (.slice A1175_1 ((rd_T33 l0 x12_1).f1).length c1175_1)) (fun _ h_ => h_.1)))).2.2) | (with_reducible refine Kd.C_alloc ?_ _) | (with_reducible refine Kd.C_drewN ?_ _) | (with_reducible refine Kd.C_drew ?_))); (case side2 => exact HC1175_0.out); (case side3 => repeat (first | exact ((Kd.V_reads' (by (with_reducible repeat (first | apply Kd.V_alloc | apply Kd.V_drewN | apply Kd.V_drew)); exact (Kd.V_mono (Kd.V_far (p := ⟨gb1176, 1, none⟩) (Kd.V_far (p := ⟨gb1176, 0, none⟩) (Kd.V_mono HL1175_1.out (fun k_ hk => (⟨hk, hk.2⟩ : _ ∧ k_ ≠ gb1176))) (fun _ hk => hk.2) (.slice A1175_0 ((rd_T33 l0 x12_1).f0).length c1175_0)) (fun _ hk => hk.2) (.slice A1175_1 ((rd_T33 l0 x12_1).f1).length c1175_1)) (fun _ h_ => h_.1)))).2.2) | (with_reducible refine Kd.C_alloc ?_ _) | (with_reducible refine Kd.C_drewN ?_ _) | (with_reducible refine Kd.C_drew ?_))); (case side4 => exact HC1175_1.out); (case side5 => refine (Kd.V_reads' (e := 3) (base := w.heap.size) (ok := fun k_ => ((((P0_ k_ ∨ P1_0_ k_ ∨ P1_1_ k_) ∨ w.heap.size ≤ k_) ∧ (some k_ ≠ (u5 : Value).ownBlock ∧ k_ ≠ gb1168)) ∧ k_ ≠ gb1176)) (n := l1_0.length) (c := c1_0) ?_).2.2; exact (by (with_reducible repeat (first | apply Kd.V_alloc | apply Kd.V_drewN | apply Kd.V_drew)); exact (Kd.V_mono (Kd.V_far (p := ⟨gb1176, 1, none⟩) (Kd.V_far (p := ⟨gb1176, 0, none⟩) (Kd.V_mono HO_1169000.out (fun k_ hk => (⟨hk, hk.2⟩ : _ ∧ k_ ≠ gb1176))) (fun _ hk => hk.2) (.slice A1175_0 ((rd_T33 l0 x12_1).f0).length c1175_0)) (fun _ hk => hk.2) (.slice A1175_1 ((rd_T33 l0 x12_1).f1).length c1175_1)) (fun _ h_ => h_.1)))); (case side6 => exact (Kd.V_reads' HO_1169000.out).2.1); (case side7 => refine (Kd.V_reads' (e := 3) (base := w.heap.size) (ok := fun k_ => ((((P0_ k_ ∨ P1_0_ k_ ∨ P1_1_ k_) ∨ w.heap.size ≤ k_) ∧ (some k_ ≠ (u5 : Value).ownBlock ∧ k_ ≠ gb1168)) ∧ k_ ≠ gb1176)) (n := l1_1.length) (c := c1_1) ?_).2.2; exact (by (with_reducible repeat (first | apply Kd.V_alloc | apply Kd.V_drewN | apply Kd.V_drew)); exact (Kd.V_mono (Kd.V_far (p := ⟨gb1176, 1, none⟩) (Kd.V_far (p := ⟨gb1176, 0, none⟩) (Kd.V_mono HO_1169001.out (fun k_ hk => (⟨hk, hk.2⟩ : _ ∧ k_ ≠ gb1176))) (fun _ hk => hk.2) (.slice A1175_0 ((rd_T33 l0 x12_1).f0).length c1175_0)) (fun _ hk => hk.2) (.slice A1175_1 ((rd_T33 l0 x12_1).f1).length c1175_1)) (fun _ h_ => h_.1)))); (case side8 => exact (Kd.V_reads' HO_1169001.out).2.1); rintro e w36 ⟨rfl, hb⟩; refine ⟨_, rfl, ?_⟩; replace HO_5 := Aside0.mk (Kd.N_below (by (with_reducible repeat (first | apply Kd.N_alloc | apply Kd.N_drewN | apply Kd.N_drew)); exact (Kd.N_mono (Kd.N_far (p := ⟨gb1176, 1, none⟩) (Kd.N_far (p := ⟨gb1176, 0, none⟩) (Kd.N_mono HO_5.out (fun k_ hk => (⟨hk, hk.2⟩ : _ ∧ k_ ≠ gb1176))) (fun _ hk => hk.2) (.slice A1175_0 ((rd_T33 l0 x12_1).f0).length c1175_0)) (fun _ hk => hk.2) (.slice A1175_1 ((rd_T33 l0 x12_1).f1).length c1175_1)) (fun _ h_ => h_.1))) hb); replace HO_10 := Aside0.mk (Kd.V_below (by (with_reducible repeat (first | apply Kd.V_alloc | apply Kd.V_drewN | apply Kd.V_drew)); exact (Kd.V_mono (Kd.V_far (p := ⟨gb1176, 1, none⟩) (Kd.V_far (p := ⟨gb1176, 0, none⟩) (Kd.V_mono HO_10.out (fun k_ hk => (⟨hk, hk.2⟩ : _ ∧ k_ ≠ gb1176))) (fun _ hk => hk.2) (.slice A1175_0 ((rd_T33 l0 x12_1).f0).length c1175_0)) (fun _ hk => hk.2) (.slice A1175_1 ((rd_T33 l0 x12_1).f1).length c1175_1)) (fun _ h_ => h_.1))) hb); replace HO_1169000 := Aside0.mk (Kd.V_below (by (with_reducible repeat (first | apply Kd.V_alloc | apply Kd.V_drewN | apply Kd.V_drew)); exact (Kd.V_mono (Kd.V_far (p := ⟨gb1176, 1, none⟩) (Kd.V_far (p := ⟨gb1176, 0, none⟩) (Kd.V_mono HO_1169000.out (fun k_ hk => (⟨hk, hk.2⟩ : _ ∧ k_ ≠ gb1176))) (fun _ hk => hk.2) (.slice A1175_0 ((rd_T33 l0 x12_1).f0).length c1175_0)) (fun _ hk => hk.2) (.slice A1175_1 ((rd_T33 l0 x12_1).f1).length c1175_1)) (fun _ h_ => h_.1))) hb); replace HO_1169001 := Aside0.mk (Kd.V_below (by (with_reducible repeat (first | apply Kd.V_alloc | apply Kd.V_drewN | apply Kd.V_drew)); exact (Kd.V_mono (Kd.V_far (p := ⟨gb1176, 1, none⟩) (Kd.V_far (p := ⟨gb1176, 0, none⟩) (Kd.V_mono HO_1169001.out (fun k_ hk => (⟨hk, hk.2⟩ : _ ∧ k_ ≠ gb1176))) (fun _ hk => hk.2) (.slice A1175_0 ((rd_T33 l0 x12_1).f0).length c1175_0)) (fun _ hk => hk.2) (.slice A1175_1 ((rd_T33 l0 x12_1).f1).length c1175_1)) (fun _ h_ => h_.1))) hb); replace BK1168 := Aside0.mk (blk_below (g := gb1168) (o := .cells #[.slice A1_0 l1_0.length c1_0, .slice A1_1 l1_1.length c1_1] 33 (0, 0)) (by (with_reducible repeat (first | refine blk_drewN ?_ _ | refine blk_drew ?_ | refine blk_alloc ?_ _)); refine blk_far ?_ NB1168_1176.out _; (with_reducible repeat (first | refine blk_drewN ?_ _ | refine blk_drew ?_ | refine blk_alloc ?_ _)); refine blk_far ?_ NB1168_1176.out _; (with_reducible repeat (first | refine blk_drewN ?_ _ | refine blk_drew ?_ | refine blk_alloc ?_ _)); exact BK1168.out) hb); replace HR1175_0 := Aside0.mk (Kd.C_below ((Kd.V_reads' (by (with_reducible repeat (first | apply Kd.V_alloc | apply Kd.V_drewN | apply Kd.V_drew)); exact (Kd.V_mono (Kd.V_far (p := ⟨gb1176, 1, none⟩) (Kd.V_far (p := ⟨gb1176, 0, none⟩) (Kd.V_mono HL1175_0.out (fun k_ hk => (⟨hk, hk.2⟩ : _ ∧ k_ ≠ gb1176))) (fun _ hk => hk.2) (.slice A1175_0 ((rd_T33 l0 x12_1).f0).length c1175_0)) (fun _ hk => hk.2) (.slice A1175_1 ((rd_T33 l0 x12_1).f1).length c1175_1)) (fun _ h_ => h_.1)))).2.2) hb); replace HL1175_0 := Aside0.mk (Kd.V_below (by (with_reducible repeat (first | apply Kd.V_alloc | apply Kd.V_drewN | apply Kd.V_drew)); exact (Kd.V_mono (Kd.V_far (p := ⟨gb1176, 1, none⟩) (Kd.V_far (p := ⟨gb1176, 0, none⟩) (Kd.V_mono HL1175_0.out (fun k_ hk => (⟨hk, hk.2⟩ : _ ∧ k_ ≠ gb1176))) (fun _ hk => hk.2) (.slice A1175_0 ((rd_T33 l0 x12_1).f0).length c1175_0)) (fun _ hk => hk.2) (.slice A1175_1 ((rd_T33 l0 x12_1).f1).length c1175_1)) (fun _ h_ => h_.1))) hb); replace HR1175_1 := Aside0.mk (Kd.C_below ((Kd.V_reads' (by (with_reducible repeat (first | apply Kd.V_alloc | apply Kd.V_drewN | apply Kd.V_drew)); exact (Kd.V_mono (Kd.V_far (p := ⟨gb1176, 1, none⟩) (Kd.V_far (p := ⟨gb1176, 0, none⟩) (Kd.V_mono HL1175_1.out (fun k_ hk => (⟨hk, hk.2⟩ : _ ∧ k_ ≠ gb1176))) (fun _ hk => hk.2) (.slice A1175_0 ((rd_T33 l0 x12_1).f0).length c1175_0)) (fun _ hk => hk.2) (.slice A1175_1 ((rd_T33 l0 x12_1).f1).length c1175_1)) (fun _ h_ => h_.1)))).2.2) hb); replace HL1175_1 := Aside0.mk (Kd.V_below (by (with_reducible repeat (first | apply Kd.V_alloc | apply Kd.V_drewN | apply Kd.V_drew)); exact (Kd.V_mono (Kd.V_far (p := ⟨gb1176, 1, none⟩) (Kd.V_far (p := ⟨gb1176, 0, none⟩) (Kd.V_mono HL1175_1.out (fun k_ hk => (⟨hk, hk.2⟩ : _ ∧ k_ ≠ gb1176))) (fun _ hk => hk.2) (.slice A1175_0 ((rd_T33 l0 x12_1).f0).length c1175_0)) (fun _ hk => hk.2) (.slice A1175_1 ((rd_T33 l0 x12_1).f1).length c1175_1)) (fun _ h_ => h_.1))) hb); replace BK1176 := Aside0.mk (blk_below (g := gb1176) (o := .cells #[.slice A1175_0 ((rd_T33 l0 x12_1).f0).length c1175_0, .slice A1175_1 ((rd_T33 l0 x12_1).f1).length c1175_1] 33 (0, 0)) qp_ hb); replace HB := b1_ hb; clear hb; obtain ⟨hcz37_0, hcz37_1, hfz37_0, hfz37_1⟩ := c2_ BK1168; have hcz38_0 : w36.cell? ⟨gb1176, 0, none⟩ = some (.slice A1175_0 ((rd_T33 l0 x12_1).f0).length c1175_0) := cz0_ BK1176; have hcz38_1 : w36.cell? ⟨gb1176, 1, none⟩ = some (.slice A1175_1 ((rd_T33 l0 x12_1).f1).length c1175_1) := cz1_ BK1176; have hfz38_0 := blk_frozen BK1176.out 0; have hfz38_1 := blk_frozen BK1176.out 1) | (go_at_call 128; (with_reducible refine (spec_l03Before.calls k1 _ _ l1_0 _ _ l1_1 _ _ ((rd_T33 l0 x12_1).f0) _ _ ((rd_T33 l0 x12_1).f1) true _ ?side1 ?side2 ?side3 ?side4 ?side5 ?side6 ?side7 ?side8 A28.out).mono ?_); (case side1 => exact cw_ ((Kd.V_reads' HO_1169000.out).2.2)); (case side2 => exact (Kd.V_reads' HO_1169000.out).2.1); (case side3 => exact cw_ ((Kd.V_reads' HO_1169001.out).2.2)); (case side4 => exact (Kd.V_reads' HO_1169001.out).2.1); (case side5 => repeat (first | exact (by repeat (first | (with_reducible exact HR1175_0.out) | (with_reducible refine Kd.C_alloc ?_ _) | (with_reducible refine Kd.C_drewN ?_ _) | (with_reducible refine Kd.C_drew ?_) | exact HR1175_0.out)) | (with_reducible refine Kd.C_alloc ?_ _) | (with_reducible refine Kd.C_drewN ?_ _) | (with_reducible refine Kd.C_drew ?_))); (case side6 => exact HC1175_0.out); (case side7 => repeat (first | exact (by repeat (first | (with_reducible exact HR1175_1.out) | (with_reducible refine Kd.C_alloc ?_ _) | (with_reducible refine Kd.C_drewN ?_ _) | (with_reducible refine Kd.C_drew ?_) | exact HR1175_1.out)) | (with_reducible refine Kd.C_alloc ?_ _) | (with_reducible refine Kd.C_drewN ?_ _) | (with_reducible refine Kd.C_drew ?_))); (case side8 => exact HC1175_1.out); rintro e w39 ⟨rfl, hb⟩; replace HO_5 := Aside0.mk (Kd.N_below (by (with_reducible repeat (first | apply Kd.N_alloc | apply Kd.N_drewN | apply Kd.N_drew)); exact HO_5.out) hb); replace HO_10 := Aside0.mk (Kd.V_below (by (with_reducible repeat (first | apply Kd.V_alloc | apply Kd.V_drewN | apply Kd.V_drew)); exact HO_10.out) hb); replace HO_1169000 := Aside0.mk (Kd.V_below (by (with_reducible repeat (first | apply Kd.V_alloc | apply Kd.V_drewN | apply Kd.V_drew)); exact HO_1169000.out) hb); replace HO_1169001 := Aside0.mk (Kd.V_below (by (with_reducible repeat (first | apply Kd.V_alloc | apply Kd.V_drewN | apply Kd.V_drew)); exact HO_1169001.out) hb); replace HL1175_0 := Aside0.mk (Kd.V_below (by (with_reducible repeat (first | apply Kd.V_alloc | apply Kd.V_drewN | apply Kd.V_drew)); exact HL1175_0.out) hb); replace HL1175_1 := Aside0.mk (Kd.V_below (by (with_reducible repeat (first | apply Kd.V_alloc | apply Kd.V_drewN | apply Kd.V_drew)); exact HL1175_1.out) hb); replace BK1168 := bb_ BK1168 hb; replace HR1175_0 := Aside0.mk (Kd.C_below (by repeat (first | (with_reducible exact HR1175_0.out) | (with_reducible refine Kd.C_alloc ?_ _) | (with_reducible refine Kd.C_drewN ?_ _) | (with_reducible refine Kd.C_drew ?_) | exact HR1175_0.out)) hb); replace HR1175_1 := Aside0.mk (Kd.C_below (by repeat (first | (with_reducible exact HR1175_1.out) | (with_reducible refine Kd.C_alloc ?_ _) | (with_reducible refine Kd.C_drewN ?_ _) | (with_reducible refine Kd.C_drew ?_) | exact HR1175_1.out)) hb); replace BK1176 := bb_ BK1176 hb; replace HB := b1_ hb; clear hb; obtain ⟨hcz40_0, hcz40_1, hfz40_0, hfz40_1⟩ := c2_ BK1168) | ((with_reducible refine gate_builtin (b := .append) (xs := #[.tmp 26, .tmp 28]) rfl ?_); at_builtin; refine Kd.N_append k33 (w0 := w) w.heap.size rfl (.tmp 26) (.tmp 28) 25 33 (.agg #[(.slice none 0 0), (.slice none 0 0)]) 48 rfl Try.underlying25 info33 rfl (by decide) (by omega) u5 x5_1 (⟨l1_0, l1_1⟩ : S33) [.slice A1_0 l1_0.length c1_0, .slice A1_1 l1_1.length c1_1] (fun k_ => ((P0_ k_ ∨ P1_0_ k_ ∨ P1_1_ k_) ∨ w.heap.size ≤ k_) ∧ k_ ≠ gb1168 ∧ k_ ≠ gb1176) (fun k_ => ((fun k_ => ((P0_ k_ ∨ P1_0_ k_ ∨ P1_1_ k_) ∨ w.heap.size ≤ k_) ∧ k_ ≠ gb1168 ∧ k_ ≠ gb1176)) k_ ∧ some k_ ≠ (u5 : Value).ownBlock) rfl rfl ?aP (fun _ hk => hk) ?aF ?aO ?aB ?aS ?aL ?_; (case aP => exact (k33_mkF _ _ (⟨l1_0, l1_1⟩ : S33) (Kd.V_reads' (Kd.V_mono (ok' := (fun k_ => ((fun k_ => ((P0_ k_ ∨ P1_0_ k_ ∨ P1_1_ k_) ∨ w.heap.size ≤ k_) ∧ k_ ≠ gb1168 ∧ k_ ≠ gb1176)) k_ ∧ some k_ ≠ (u5 : Value).ownBlock)) (HO_1169000.out) (fun k_ hk => ⟨⟨hk.1.1, ⟨hk.1.2.2, hk.2⟩⟩, hk.1.2.1⟩))).2.1 (Kd.V_F (Kd.V_mono (ok' := (fun k_ => ((fun k_ => ((P0_ k_ ∨ P1_0_ k_ ∨ P1_1_ k_) ∨ w.heap.size ≤ k_) ∧ k_ ≠ gb1168 ∧ k_ ≠ gb1176)) k_ ∧ some k_ ≠ (u5 : Value).ownBlock)) (HO_1169000.out) (fun k_ hk => ⟨⟨hk.1.1, ⟨hk.1.2.2, hk.2⟩⟩, hk.1.2.1⟩))) (Kd.V_reads' (Kd.V_mono (ok' := (fun k_ => ((fun k_ => ((P0_ k_ ∨ P1_0_ k_ ∨ P1_1_ k_) ∨ w.heap.size ≤ k_) ∧ k_ ≠ gb1168 ∧ k_ ≠ gb1176)) k_ ∧ some k_ ≠ (u5 : Value).ownBlock)) (HO_1169001.out) (fun k_ hk => ⟨⟨hk.1.1, ⟨hk.1.2.2, hk.2⟩⟩, hk.1.2.1⟩))).2.1 (Kd.V_F (Kd.V_mono (ok' := (fun k_ => ((fun k_ => ((P0_ k_ ∨ P1_0_ k_ ∨ P1_1_ k_) ∨ w.heap.size ≤ k_) ∧ k_ ≠ gb1168 ∧ k_ ≠ gb1176)) k_ ∧ some k_ ≠ (u5 : Value).ownBlock)) (HO_1169001.out) (fun k_ hk => ⟨⟨hk.1.1, ⟨hk.1.2.2, hk.2⟩⟩, hk.1.2.1⟩))))); (case aB => exact hB_); (case aF => exact (fun k_ hk => ⟨(.inr (Nat.le_trans (below_size hB_) hk)), Kd.freshB (kk_ BK1168) k_ hk, Kd.freshB (kk_ BK1176) k_ hk⟩)); (case aO => exact (by (with_reducible repeat (first | apply Kd.N_alloc | apply Kd.N_drewN | apply Kd.N_drew)); exact Kd.N_mono HO_5.out (fun _ hk => ⟨hk.1.1, ⟨hk.1.2, hk.2⟩⟩))); (case aS => exact (below_size hB_)); (case aL => have := LMc30.out; omega); intro v1186 w41 ho hb hg hat; rw [← Ny1185.out] at ho; replace HO_10 := Aside0.mk (Kd.V_afterv (ok := (fun k_ => ((P0_ k_ ∨ P1_0_ k_ ∨ P1_1_ k_) ∨ w.heap.size ≤ k_) ∧ k_ ≠ gb1168 ∧ k_ ≠ gb1176)) (by (with_reducible repeat (first | apply Kd.V_alloc | apply Kd.V_drewN | apply Kd.V_drew)); exact Kd.V_mono HO_10.out (fun _ hk => ⟨⟨hk.1.1, ⟨hk.1.2.2, hk.2⟩⟩, hk.1.2.1⟩)) hg hat); replace HO_1169000 := Aside0.mk (Kd.V_afterv (ok := (fun k_ => ((P0_ k_ ∨ P1_0_ k_ ∨ P1_1_ k_) ∨ w.heap.size ≤ k_) ∧ k_ ≠ gb1168 ∧ k_ ≠ gb1176)) (by (with_reducible repeat (first | apply Kd.V_alloc | apply Kd.V_drewN | apply Kd.V_drew)); exact Kd.V_mono HO_1169000.out (fun _ hk => ⟨⟨hk.1.1, ⟨hk.1.2.2, hk.2⟩⟩, hk.1.2.1⟩)) hg hat); replace HO_1169001 := Aside0.mk (Kd.V_afterv (ok := (fun k_ => ((P0_ k_ ∨ P1_0_ k_ ∨ P1_1_ k_) ∨ w.heap.size ≤ k_) ∧ k_ ≠ gb1168 ∧ k_ ≠ gb1176)) (by (with_reducible repeat (first | apply Kd.V_alloc | apply Kd.V_drewN | apply Kd.V_drew)); exact Kd.V_mono HO_1169001.out (fun _ hk => ⟨⟨hk.1.1, ⟨hk.1.2.2, hk.2⟩⟩, hk.1.2.1⟩)) hg hat); replace BK1168 := Aside0.mk (blk_grown (kk_ BK1168) hg (Kd.N_away HO_5.out (fun _ hk => hk.1.2))); replace HL1175_0 := Aside0.mk (Kd.V_afterv (ok := (fun k_ => ((P0_ k_ ∨ P1_0_ k_ ∨ P1_1_ k_) ∨ w.heap.size ≤ k_) ∧ k_ ≠ gb1168 ∧ k_ ≠ gb1176)) (by (with_reducible repeat (first | apply Kd.V_alloc | apply Kd.V_drewN | apply Kd.V_drew)); exact Kd.V_mono HL1175_0.out (fun _ hk => ⟨⟨hk.1.1, ⟨hk.1.2.2, hk.2⟩⟩, hk.1.2.1⟩)) hg hat); replace HL1175_1 := Aside0.mk (Kd.V_afterv (ok := (fun k_ => ((P0_ k_ ∨ P1_0_ k_ ∨ P1_1_ k_) ∨ w.heap.size ≤ k_) ∧ k_ ≠ gb1168 ∧ k_ ≠ gb1176)) (by (with_reducible repeat (first | apply Kd.V_alloc | apply Kd.V_drewN | apply Kd.V_drew)); exact Kd.V_mono HL1175_1.out (fun _ hk => ⟨⟨hk.1.1, ⟨hk.1.2.2, hk.2⟩⟩, hk.1.2.1⟩)) hg hat); replace BK1176 := Aside0.mk (blk_grown (kk_ BK1176) hg (Kd.N_away HO_5.out (fun _ hk => hk.2))); replace HB := Aside0.mk hb; have HO1187 := Aside0.mk ho; clear HO_5; clear ho hb hg hat; have hcz42_0 : w41.cell? ⟨gb1176, 0, none⟩ = some (.slice A1175_0 ((rd_T33 l0 x12_1).f0).length c1175_0) := cz0_ BK1176; have hcz42_1 : w41.cell? ⟨gb1176, 1, none⟩ = some (.slice A1175_1 ((rd_T33 l0 x12_1).f1).length c1175_1) := cz1_ BK1176; have hfz42_0 := blk_frozen BK1176.out 0; have hfz42_1 := blk_frozen BK1176.out 1) | ((with_reducible refine gate_builtin (b := .append) (xs := #[.tmp 30, .tmp 32]) rfl ?_); at_builtin; refine Kd.N_append k33 (w0 := w) w.heap.size rfl (.tmp 30) (.tmp 32) 25 33 (.agg #[(.slice none 0 0), (.slice none 0 0)]) 48 rfl Try.underlying25 info33 rfl (by decide) (by omega) v1186 y1185 (⟨(rd_T33 l0 x12_1).f0, (rd_T33 l0 x12_1).f1⟩ : S33) [.slice A1175_0 ((rd_T33 l0 x12_1).f0).length c1175_0, .slice A1175_1 ((rd_T33 l0 x12_1).f1).length c1175_1] (fun k_ => ((P0_ k_ ∨ P1_0_ k_ ∨ P1_1_ k_) ∨ w.heap.size ≤ k_) ∧ k_ ≠ gb1168 ∧ k_ ≠ gb1176) (fun k_ => ((fun k_ => ((P0_ k_ ∨ P1_0_ k_ ∨ P1_1_ k_) ∨ w.heap.size ≤ k_) ∧ k_ ≠ gb1168 ∧ k_ ≠ gb1176)) k_ ∧ some k_ ≠ (v1186 : Value).ownBlock) rfl rfl ?aP (fun _ hk => hk) ?aF ?aO ?aB ?aS ?aL ?_; (case aP => exact (k33_mkF _ _ (⟨(rd_T33 l0 x12_1).f0, (rd_T33 l0 x12_1).f1⟩ : S33) (Kd.V_reads' (Kd.V_mono (ok' := (fun k_ => ((fun k_ => ((P0_ k_ ∨ P1_0_ k_ ∨ P1_1_ k_) ∨ w.heap.size ≤ k_) ∧ k_ ≠ gb1168 ∧ k_ ≠ gb1176)) k_ ∧ some k_ ≠ (v1186 : Value).ownBlock)) (HL1175_0.out) (fun k_ hk => ⟨⟨hk.1.1, ⟨hk.1.2.1, hk.1.2.2⟩⟩, hk.2⟩))).2.1 (Kd.V_F (Kd.V_mono (ok' := (fun k_ => ((fun k_ => ((P0_ k_ ∨ P1_0_ k_ ∨ P1_1_ k_) ∨ w.heap.size ≤ k_) ∧ k_ ≠ gb1168 ∧ k_ ≠ gb1176)) k_ ∧ some k_ ≠ (v1186 : Value).ownBlock)) (HL1175_0.out) (fun k_ hk => ⟨⟨hk.1.1, ⟨hk.1.2.1, hk.1.2.2⟩⟩, hk.2⟩))) (Kd.V_reads' (Kd.V_mono (ok' := (fun k_ => ((fun k_ => ((P0_ k_ ∨ P1_0_ k_ ∨ P1_1_ k_) ∨ w.heap.size ≤ k_) ∧ k_ ≠ gb1168 ∧ k_ ≠ gb1176)) k_ ∧ some k_ ≠ (v1186 : Value).ownBlock)) (HL1175_1.out) (fun k_ hk => ⟨⟨hk.1.1, ⟨hk.1.2.1, hk.1.2.2⟩⟩, hk.2⟩))).2.1 (Kd.V_F (Kd.V_mono (ok' := (fun k_ => ((fun k_ => ((P0_ k_ ∨ P1_0_ k_ ∨ P1_1_ k_) ∨ w.heap.size ≤ k_) ∧ k_ ≠ gb1168 ∧ k_ ≠ gb1176)) k_ ∧ some k_ ≠ (v1186 : Value).ownBlock)) (HL1175_1.out) (fun k_ hk => ⟨⟨hk.1.1, ⟨hk.1.2.1, hk.1.2.2⟩⟩, hk.2⟩))))); (case aB => exact hB_); (case aF => exact (fun k_ hk => ⟨(.inr (Nat.le_trans (below_size hB_) hk)), Kd.freshB (kk_ BK1168) k_ hk, Kd.freshB (kk_ BK1176) k_ hk⟩)); (case aO => exact (by (with_reducible repeat (first | apply Kd.N_alloc | apply Kd.N_drewN | apply Kd.N_drew)); exact HO1187.out)); (case aS => exact (below_size hB_)); (case aL => have := LMc31.out; omega); intro v1189 w43 ho hb hg hat; rw [← Ny1188.out] at ho; replace HO_10 := Aside0.mk (Kd.V_afterv (ok := (fun k_ => ((P0_ k_ ∨ P1_0_ k_ ∨ P1_1_ k_) ∨ w.heap.size ≤ k_) ∧ k_ ≠ gb1168 ∧ k_ ≠ gb1176)) (by (with_reducible repeat (first | apply Kd.V_alloc | apply Kd.V_drewN | apply Kd.V_drew)); exact HO_10.out) hg hat); replace HO_1169000 := Aside0.mk (Kd.V_afterv (ok := (fun k_ => ((P0_ k_ ∨ P1_0_ k_ ∨ P1_1_ k_) ∨ w.heap.size ≤ k_) ∧ k_ ≠ gb1168 ∧ k_ ≠ gb1176)) (by (with_reducible repeat (first | apply Kd.V_alloc | apply Kd.V_drewN | apply Kd.V_drew)); exact HO_1169000.out) hg hat); replace HO_1169001 := Aside0.mk (Kd.V_afterv (ok := (fun k_ => ((P0_ k_ ∨ P1_0_ k_ ∨ P1_1_ k_) ∨ w.heap.size ≤ k_) ∧ k_ ≠ gb1168 ∧ k_ ≠ gb1176)) (by (with_reducible repeat (first | apply Kd.V_alloc | apply Kd.V_drewN | apply Kd.V_drew)); exact HO_1169001.out) hg hat); replace BK1168 := Aside0.mk (blk_grown (kk_ BK1168) hg (Kd.N_away HO1187.out (fun _ hk => hk.2.1))); replace HL1175_0 := Aside0.mk (Kd.V_afterv (ok := (fun k_ => ((P0_ k_ ∨ P1_0_ k_ ∨ P1_1_ k_) ∨ w.heap.size ≤ k_) ∧ k_ ≠ gb1168 ∧ k_ ≠ gb1176)) (by (with_reducible repeat (first | apply Kd.V_alloc | apply Kd.V_drewN | apply Kd.V_drew)); exact HL1175_0.out) hg hat); replace HL1175_1 := Aside0.mk (Kd.V_afterv (ok := (fun k_ => ((P0_ k_ ∨ P1_0_ k_ ∨ P1_1_ k_) ∨ w.heap.size ≤ k_) ∧ k_ ≠ gb1168 ∧ k_ ≠ gb1176)) (by (with_reducible repeat (first | apply Kd.V_alloc | apply Kd.V_drewN | apply Kd.V_drew)); exact HL1175_1.out) hg hat); replace BK1176 := Aside0.mk (blk_grown (kk_ BK1176) hg (Kd.N_away HO1187.out (fun _ hk => hk.2.2))); replace HB := Aside0.mk hb; have HO1190 := Aside0.mk ho; clear HO1187; clear ho hb hg hat))
              go_roundg k1
              case measure => have := HK1.out; omega
              case rel => exact ⟨(y1188), (true), (wrap64 (x12_1 + 1)), qc_, qc_, H', ⟨by have := HK1.out; omega⟩, ⟨by (with_reducible repeat (first | apply Kd.N_alloc | apply Kd.N_drewN | apply Kd.N_drew)); exact Kd.N_mono HO1190.out (fun _ hk => ⟨hk.1, hk.2.1⟩)⟩, ⟨by (with_reducible repeat (first | apply Kd.V_alloc | apply Kd.V_drewN | apply Kd.V_drew)); exact Kd.V_mono HO_10.out (fun _ hk => ⟨hk.1.1, ⟨hk.2, hk.1.2.1⟩⟩)⟩, ⟨by (with_reducible repeat (first | apply Kd.V_alloc | apply Kd.V_drewN | apply Kd.V_drew)); exact Kd.V_mono HO_1169000.out (fun _ hk => ⟨hk.1.1, ⟨hk.2, hk.1.2.1⟩⟩)⟩, ⟨by (with_reducible repeat (first | apply Kd.V_alloc | apply Kd.V_drewN | apply Kd.V_drew)); exact Kd.V_mono HO_1169001.out (fun _ hk => ⟨hk.1.1, ⟨hk.2, hk.1.2.1⟩⟩)⟩, ⟨(kk_ BK1168)⟩, ⟨hB_⟩⟩
            · replace c29 := Bool.eq_false_iff.mpr c29
              subst c29
              have H1 : (if x5_1.length < 2932031007402 then (spec_l10Insert.l0 k1 (x5_1 ++ [(⟨(rd_T33 l0 x12_1).f0, (rd_T33 l0 x12_1).f1⟩ : S33)]) false l0 (l0.length : Int) (wrap64 (x12_1 + 1)) l1_0 l1_1) else (none)) = some r := by rw [if_neg (show ¬ (false = true) by decide)] at H; exact H
              clear H
              have H := H1
              clear H1
              have c44 := cp_ H
              replace H := ca_ H
              have LMc44 := Aside0.mk c44
              clear c44
              obtain ⟨y1191, hy1191⟩ : ∃ y_ : List (S33), y_ = (x5_1 ++ [(⟨(rd_T33 l0 x12_1).f0, (rd_T33 l0 x12_1).f1⟩ : S33)]) := ⟨_, rfl⟩
              replace H : (spec_l10Insert.l0 k1 y1191 false l0 (l0.length : Int) (wrap64 (x12_1 + 1)) l1_0 l1_1) = some r := by first | (rw [hy1191]; exact H) | exact H
              have Ny1191 := Aside0.mk hy1191
              clear hy1191
              have H' := Aside0.mk H
              clear H
              have p1175 : 0 ≤ (x12_1 : Int) := of_decide_eq_true qe_
              have q1175 : x12_1 < (l0.length : Int) := of_decide_eq_true qe_
              obtain ⟨ad1175, A1175_0, c1175_0, A1175_1, c1175_1, e1175, hx1175_0, hx1175_1, hl1175_0, hi1175_0, hl1175_1, hi1175_1⟩ := at_T33 (Kd.V_reads' HO_10.out).2.2 x12_1 p1175 q1175
              cases e1175
              obtain ⟨ce1175, hce1175, hMe1175, hcc1175⟩ := Kd.V_get HO_10.out z33 x12_1 p1175 (by first | exact q1175 | exact of_decide_eq_true qe_ | (have e_ := (Kd.V_reads' HO_10.out).1; omega))
              obtain ⟨ua1175_0, uc1175_0, ua1175_1, uc1175_1, rfl, ul1175_0, ge1175_0, ul1175_1, ge1175_1⟩ := k33_openF hMe1175
              have hv1175_0 := hcc1175 0 _ rfl
              rw [Nat.add_zero] at hv1175_0
              replace hv1175_0 := Option.some.inj (hv1175_0.symm.trans hx1175_0)
              injection hv1175_0 with hva_ hvn_ hvc_
              rw [hva_] at ge1175_0
              rw [hvc_] at ul1175_0
              have HL1175_0 := Aside0.mk (show Kd.V (Kd.int .i64) 3 _ w.heap.size _ _ ((rd_T33 l0 x12_1).f0) from Kd.V_mk ul1175_0 ge1175_0)
              clear hva_ hvn_ hvc_ ge1175_0 ul1175_0
              have hv1175_1 := hcc1175 1 _ rfl
              rw [add_field _ _ 1 (by omega)] at hv1175_1
              replace hv1175_1 := Option.some.inj (hv1175_1.symm.trans hx1175_1)
              injection hv1175_1 with hva_ hvn_ hvc_
              rw [hva_] at ge1175_1
              rw [hvc_] at ul1175_1
              have HL1175_1 := Aside0.mk (show Kd.V (Kd.int .i64) 3 _ w.heap.size _ _ ((rd_T33 l0 x12_1).f1) from Kd.V_mk ul1175_1 ge1175_1)
              clear hva_ hvn_ hvc_ ge1175_1 ul1175_1
              clear hcc1175 hce1175
              have HR1175_0 := Aside0.mk hi1175_0
              have HC1175_0 := Aside0.mk hl1175_0
              clear hi1175_0 hl1175_0
              have HR1175_1 := Aside0.mk hi1175_1
              have HC1175_1 := Aside0.mk hl1175_1
              clear hi1175_1 hl1175_1
              replace p1175 := eq_true p1175
              replace q1175 := eq_true q1175
              go_wp2_with (first | ((with_reducible refine gate_dst (N := 8) rfl ?_); refine bx_ 8 #[.slice none 0 0, .slice none 0 0] 33 ?_; intro gb1176 hg w45 hbox hb; replace HO_5 := Aside0.mk (Kd.N_below (Kd.N_elderB (by (with_reducible repeat (first | apply Kd.N_alloc | apply Kd.N_drewN | apply Kd.N_drew)); exact HO_5.out) gb1176 (Nat.le_of_eq hg.symm)) hb); replace HO_10 := Aside0.mk (Kd.V_below (Kd.V_elderB (by (with_reducible repeat (first | apply Kd.V_alloc | apply Kd.V_drewN | apply Kd.V_drew)); exact HO_10.out) gb1176 (Nat.le_of_eq hg.symm)) hb); replace HO_1169000 := Aside0.mk (Kd.V_below (Kd.V_elderB (by (with_reducible repeat (first | apply Kd.V_alloc | apply Kd.V_drewN | apply Kd.V_drew)); exact HO_1169000.out) gb1176 (Nat.le_of_eq hg.symm)) hb); replace HO_1169001 := Aside0.mk (Kd.V_below (Kd.V_elderB (by (with_reducible repeat (first | apply Kd.V_alloc | apply Kd.V_drewN | apply Kd.V_drew)); exact HO_1169001.out) gb1176 (Nat.le_of_eq hg.symm)) hb); replace HL1175_0 := Aside0.mk (Kd.V_below (Kd.V_elderB (by (with_reducible repeat (first | apply Kd.V_alloc | apply Kd.V_drewN | apply Kd.V_drew)); exact HL1175_0.out) gb1176 (Nat.le_of_eq hg.symm)) hb); replace HL1175_1 := Aside0.mk (Kd.V_below (Kd.V_elderB (by (with_reducible repeat (first | apply Kd.V_alloc | apply Kd.V_drewN | apply Kd.V_drew)); exact HL1175_1.out) gb1176 (Nat.le_of_eq hg.symm)) hb); replace HR1175_0 := Aside0.mk (Kd.C_below (by repeat (first | (with_reducible exact HR1175_0.out) | (with_reducible refine Kd.C_alloc ?_ _) | (with_reducible refine Kd.C_drewN ?_ _) | (with_reducible refine Kd.C_drew ?_) | exact HR1175_0.out)) hb); replace HR1175_1 := Aside0.mk (Kd.C_below (by repeat (first | (with_reducible exact HR1175_1.out) | (with_reducible refine Kd.C_alloc ?_ _) | (with_reducible refine Kd.C_drewN ?_ _) | (with_reducible refine Kd.C_drew ?_) | exact HR1175_1.out)) hb); have BK1176 := Aside0.mk hbox; have GW1176 := gw_ w hg; have GE1176 := GW1176; replace HB := b1_ hb; have NB1168_1176 := gN_ BK1168 hg; have NB1176_1168 := gP_ BK1168 hg; replace BK1168 := bb_ BK1168 hb; clear hb hbox hg; have hnb46 := NB1176_1168.out; have hnc46 := NB1168_1176.out; obtain ⟨hcz47_0, hcz47_1, hfz47_0, hfz47_1⟩ := c2_ BK1176; obtain ⟨hcz48_0, hcz48_1, hfz48_0, hfz48_1⟩ := c2_ BK1168) | ((with_reducible refine gate_callee (f := 125) rfl ?_); refine gL_ (some 18) Try.func125 #[.agg #[.slice A1175_0 ((rd_T33 l0 x12_1).f0).length c1175_0, .slice A1175_1 ((rd_T33 l0 x12_1).f1).length c1175_1], .agg #[.slice A1_0 l1_0.length c1_0, .slice A1_1 l1_1.length c1_1]] rfl qa_ ?_; (with_reducible refine (spec_SameSurface.calls k1 _ _ ((rd_T33 l0 x12_1).f0) _ _ ((rd_T33 l0 x12_1).f1) _ _ l1_0 _ _ l1_1 false _ ?side1 ?side2 ?side3 ?side4 ?side5 ?side6 ?side7 ?side8 A9.out).mono ?_); (case side1 => repeat (first | exact ((Kd.V_reads' (by (with_reducible repeat (first | apply Kd.V_alloc | apply Kd.V_drewN | apply Kd.V_drew)); exact (Kd.V_mono (Kd.V_far (p := ⟨gb1176, 1, none⟩) (Kd.V_far (p := ⟨gb1176, 0, none⟩) (Kd.V_mono HL1175_0.out (fun k_ hk => (⟨hk, hk.2⟩ : _ ∧ k_ ≠ gb1176))) (fun _ hk => hk.2) (.slice A1175_0 ((rd_T33 l0 x12_1).f0).length c1175_0)) (fun _ hk => hk.2) (.slice A1175_1 ((rd_T33 l0 x12_1).f1).length c1175_1)) (fun _ h_ => h_.1)))).2.2) | (with_reducible refine Kd.C_alloc ?_ _) | (with_reducible refine Kd.C_drewN ?_ _) | (with_reducible refine Kd.C_drew ?_))); (case side2 => exact HC1175_0.out); (case side3 => repeat (first | exact ((Kd.V_reads' (by (with_reducible repeat (first | apply Kd.V_alloc | apply Kd.V_drewN | apply Kd.V_drew)); exact (Kd.V_mono (Kd.V_far (p := ⟨gb1176, 1, none⟩) (Kd.V_far (p := ⟨gb1176, 0, none⟩) (Kd.V_mono HL1175_1.out (fun k_ hk => (⟨hk, hk.2⟩ : _ ∧ k_ ≠ gb1176))) (fun _ hk => hk.2) (.slice A1175_0 ((rd_T33 l0 x12_1).f0).length c1175_0)) (fun _ hk => hk.2) (.slice A1175_1 ((rd_T33 l0 x12_1).f1).length c1175_1)) (fun _ h_ => h_.1)))).2.2) | (with_reducible refine Kd.C_alloc ?_ _) | (with_reducible refine Kd.C_drewN ?_ _) | (with_reducible refine Kd.C_drew ?_))); (case side4 => exact HC1175_1.out); (case side5 => refine (Kd.V_reads' (e := 3) (base := w.heap.size) (ok := fun k_ => ((((P0_ k_ ∨ P1_0_ k_ ∨ P1_1_ k_) ∨ w.heap.size ≤ k_) ∧ (some k_ ≠ (u5 : Value).ownBlock ∧ k_ ≠ gb1168)) ∧ k_ ≠ gb1176)) (n := l1_0.length) (c := c1_0) ?_).2.2; exact (by (with_reducible repeat (first | apply Kd.V_alloc | apply Kd.V_drewN | apply Kd.V_drew)); exact (Kd.V_mono (Kd.V_far (p := ⟨gb1176, 1, none⟩) (Kd.V_far (p := ⟨gb1176, 0, none⟩) (Kd.V_mono HO_1169000.out (fun k_ hk => (⟨hk, hk.2⟩ : _ ∧ k_ ≠ gb1176))) (fun _ hk => hk.2) (.slice A1175_0 ((rd_T33 l0 x12_1).f0).length c1175_0)) (fun _ hk => hk.2) (.slice A1175_1 ((rd_T33 l0 x12_1).f1).length c1175_1)) (fun _ h_ => h_.1)))); (case side6 => exact (Kd.V_reads' HO_1169000.out).2.1); (case side7 => refine (Kd.V_reads' (e := 3) (base := w.heap.size) (ok := fun k_ => ((((P0_ k_ ∨ P1_0_ k_ ∨ P1_1_ k_) ∨ w.heap.size ≤ k_) ∧ (some k_ ≠ (u5 : Value).ownBlock ∧ k_ ≠ gb1168)) ∧ k_ ≠ gb1176)) (n := l1_1.length) (c := c1_1) ?_).2.2; exact (by (with_reducible repeat (first | apply Kd.V_alloc | apply Kd.V_drewN | apply Kd.V_drew)); exact (Kd.V_mono (Kd.V_far (p := ⟨gb1176, 1, none⟩) (Kd.V_far (p := ⟨gb1176, 0, none⟩) (Kd.V_mono HO_1169001.out (fun k_ hk => (⟨hk, hk.2⟩ : _ ∧ k_ ≠ gb1176))) (fun _ hk => hk.2) (.slice A1175_0 ((rd_T33 l0 x12_1).f0).length c1175_0)) (fun _ hk => hk.2) (.slice A1175_1 ((rd_T33 l0 x12_1).f1).length c1175_1)) (fun _ h_ => h_.1)))); (case side8 => exact (Kd.V_reads' HO_1169001.out).2.1); rintro e w49 ⟨rfl, hb⟩; refine ⟨_, rfl, ?_⟩; replace HO_5 := Aside0.mk (Kd.N_below (by (with_reducible repeat (first | apply Kd.N_alloc | apply Kd.N_drewN | apply Kd.N_drew)); exact (Kd.N_mono (Kd.N_far (p := ⟨gb1176, 1, none⟩) (Kd.N_far (p := ⟨gb1176, 0, none⟩) (Kd.N_mono HO_5.out (fun k_ hk => (⟨hk, hk.2⟩ : _ ∧ k_ ≠ gb1176))) (fun _ hk => hk.2) (.slice A1175_0 ((rd_T33 l0 x12_1).f0).length c1175_0)) (fun _ hk => hk.2) (.slice A1175_1 ((rd_T33 l0 x12_1).f1).length c1175_1)) (fun _ h_ => h_.1))) hb); replace HO_10 := Aside0.mk (Kd.V_below (by (with_reducible repeat (first | apply Kd.V_alloc | apply Kd.V_drewN | apply Kd.V_drew)); exact (Kd.V_mono (Kd.V_far (p := ⟨gb1176, 1, none⟩) (Kd.V_far (p := ⟨gb1176, 0, none⟩) (Kd.V_mono HO_10.out (fun k_ hk => (⟨hk, hk.2⟩ : _ ∧ k_ ≠ gb1176))) (fun _ hk => hk.2) (.slice A1175_0 ((rd_T33 l0 x12_1).f0).length c1175_0)) (fun _ hk => hk.2) (.slice A1175_1 ((rd_T33 l0 x12_1).f1).length c1175_1)) (fun _ h_ => h_.1))) hb); replace HO_1169000 := Aside0.mk (Kd.V_below (by (with_reducible repeat (first | apply Kd.V_alloc | apply Kd.V_drewN | apply Kd.V_drew)); exact (Kd.V_mono (Kd.V_far (p := ⟨gb1176, 1, none⟩) (Kd.V_far (p := ⟨gb1176, 0, none⟩) (Kd.V_mono HO_1169000.out (fun k_ hk => (⟨hk, hk.2⟩ : _ ∧ k_ ≠ gb1176))) (fun _ hk => hk.2) (.slice A1175_0 ((rd_T33 l0 x12_1).f0).length c1175_0)) (fun _ hk => hk.2) (.slice A1175_1 ((rd_T33 l0 x12_1).f1).length c1175_1)) (fun _ h_ => h_.1))) hb); replace HO_1169001 := Aside0.mk (Kd.V_below (by (with_reducible repeat (first | apply Kd.V_alloc | apply Kd.V_drewN | apply Kd.V_drew)); exact (Kd.V_mono (Kd.V_far (p := ⟨gb1176, 1, none⟩) (Kd.V_far (p := ⟨gb1176, 0, none⟩) (Kd.V_mono HO_1169001.out (fun k_ hk => (⟨hk, hk.2⟩ : _ ∧ k_ ≠ gb1176))) (fun _ hk => hk.2) (.slice A1175_0 ((rd_T33 l0 x12_1).f0).length c1175_0)) (fun _ hk => hk.2) (.slice A1175_1 ((rd_T33 l0 x12_1).f1).length c1175_1)) (fun _ h_ => h_.1))) hb); replace BK1168 := Aside0.mk (blk_below (g := gb1168) (o := .cells #[.slice A1_0 l1_0.length c1_0, .slice A1_1 l1_1.length c1_1] 33 (0, 0)) (by (with_reducible repeat (first | refine blk_drewN ?_ _ | refine blk_drew ?_ | refine blk_alloc ?_ _)); refine blk_far ?_ NB1168_1176.out _; (with_reducible repeat (first | refine blk_drewN ?_ _ | refine blk_drew ?_ | refine blk_alloc ?_ _)); refine blk_far ?_ NB1168_1176.out _; (with_reducible repeat (first | refine blk_drewN ?_ _ | refine blk_drew ?_ | refine blk_alloc ?_ _)); exact BK1168.out) hb); replace HR1175_0 := Aside0.mk (Kd.C_below ((Kd.V_reads' (by (with_reducible repeat (first | apply Kd.V_alloc | apply Kd.V_drewN | apply Kd.V_drew)); exact (Kd.V_mono (Kd.V_far (p := ⟨gb1176, 1, none⟩) (Kd.V_far (p := ⟨gb1176, 0, none⟩) (Kd.V_mono HL1175_0.out (fun k_ hk => (⟨hk, hk.2⟩ : _ ∧ k_ ≠ gb1176))) (fun _ hk => hk.2) (.slice A1175_0 ((rd_T33 l0 x12_1).f0).length c1175_0)) (fun _ hk => hk.2) (.slice A1175_1 ((rd_T33 l0 x12_1).f1).length c1175_1)) (fun _ h_ => h_.1)))).2.2) hb); replace HL1175_0 := Aside0.mk (Kd.V_below (by (with_reducible repeat (first | apply Kd.V_alloc | apply Kd.V_drewN | apply Kd.V_drew)); exact (Kd.V_mono (Kd.V_far (p := ⟨gb1176, 1, none⟩) (Kd.V_far (p := ⟨gb1176, 0, none⟩) (Kd.V_mono HL1175_0.out (fun k_ hk => (⟨hk, hk.2⟩ : _ ∧ k_ ≠ gb1176))) (fun _ hk => hk.2) (.slice A1175_0 ((rd_T33 l0 x12_1).f0).length c1175_0)) (fun _ hk => hk.2) (.slice A1175_1 ((rd_T33 l0 x12_1).f1).length c1175_1)) (fun _ h_ => h_.1))) hb); replace HR1175_1 := Aside0.mk (Kd.C_below ((Kd.V_reads' (by (with_reducible repeat (first | apply Kd.V_alloc | apply Kd.V_drewN | apply Kd.V_drew)); exact (Kd.V_mono (Kd.V_far (p := ⟨gb1176, 1, none⟩) (Kd.V_far (p := ⟨gb1176, 0, none⟩) (Kd.V_mono HL1175_1.out (fun k_ hk => (⟨hk, hk.2⟩ : _ ∧ k_ ≠ gb1176))) (fun _ hk => hk.2) (.slice A1175_0 ((rd_T33 l0 x12_1).f0).length c1175_0)) (fun _ hk => hk.2) (.slice A1175_1 ((rd_T33 l0 x12_1).f1).length c1175_1)) (fun _ h_ => h_.1)))).2.2) hb); replace HL1175_1 := Aside0.mk (Kd.V_below (by (with_reducible repeat (first | apply Kd.V_alloc | apply Kd.V_drewN | apply Kd.V_drew)); exact (Kd.V_mono (Kd.V_far (p := ⟨gb1176, 1, none⟩) (Kd.V_far (p := ⟨gb1176, 0, none⟩) (Kd.V_mono HL1175_1.out (fun k_ hk => (⟨hk, hk.2⟩ : _ ∧ k_ ≠ gb1176))) (fun _ hk => hk.2) (.slice A1175_0 ((rd_T33 l0 x12_1).f0).length c1175_0)) (fun _ hk => hk.2) (.slice A1175_1 ((rd_T33 l0 x12_1).f1).length c1175_1)) (fun _ h_ => h_.1))) hb); replace BK1176 := Aside0.mk (blk_below (g := gb1176) (o := .cells #[.slice A1175_0 ((rd_T33 l0 x12_1).f0).length c1175_0, .slice A1175_1 ((rd_T33 l0 x12_1).f1).length c1175_1] 33 (0, 0)) qp_ hb); replace HB := b1_ hb; clear hb; obtain ⟨hcz50_0, hcz50_1, hfz50_0, hfz50_1⟩ := c2_ BK1168; have hcz51_0 : w49.cell? ⟨gb1176, 0, none⟩ = some (.slice A1175_0 ((rd_T33 l0 x12_1).f0).length c1175_0) := cz0_ BK1176; have hcz51_1 : w49.cell? ⟨gb1176, 1, none⟩ = some (.slice A1175_1 ((rd_T33 l0 x12_1).f1).length c1175_1) := cz1_ BK1176; have hfz51_0 := blk_frozen BK1176.out 0; have hfz51_1 := blk_frozen BK1176.out 1) | (go_at_call 128; (with_reducible refine (spec_l03Before.calls k1 _ _ l1_0 _ _ l1_1 _ _ ((rd_T33 l0 x12_1).f0) _ _ ((rd_T33 l0 x12_1).f1) false _ ?side1 ?side2 ?side3 ?side4 ?side5 ?side6 ?side7 ?side8 A28.out).mono ?_); (case side1 => exact cw_ ((Kd.V_reads' HO_1169000.out).2.2)); (case side2 => exact (Kd.V_reads' HO_1169000.out).2.1); (case side3 => exact cw_ ((Kd.V_reads' HO_1169001.out).2.2)); (case side4 => exact (Kd.V_reads' HO_1169001.out).2.1); (case side5 => repeat (first | exact (by repeat (first | (with_reducible exact HR1175_0.out) | (with_reducible refine Kd.C_alloc ?_ _) | (with_reducible refine Kd.C_drewN ?_ _) | (with_reducible refine Kd.C_drew ?_) | exact HR1175_0.out)) | (with_reducible refine Kd.C_alloc ?_ _) | (with_reducible refine Kd.C_drewN ?_ _) | (with_reducible refine Kd.C_drew ?_))); (case side6 => exact HC1175_0.out); (case side7 => repeat (first | exact (by repeat (first | (with_reducible exact HR1175_1.out) | (with_reducible refine Kd.C_alloc ?_ _) | (with_reducible refine Kd.C_drewN ?_ _) | (with_reducible refine Kd.C_drew ?_) | exact HR1175_1.out)) | (with_reducible refine Kd.C_alloc ?_ _) | (with_reducible refine Kd.C_drewN ?_ _) | (with_reducible refine Kd.C_drew ?_))); (case side8 => exact HC1175_1.out); rintro e w52 ⟨rfl, hb⟩; replace HO_5 := Aside0.mk (Kd.N_below (by (with_reducible repeat (first | apply Kd.N_alloc | apply Kd.N_drewN | apply Kd.N_drew)); exact HO_5.out) hb); replace HO_10 := Aside0.mk (Kd.V_below (by (with_reducible repeat (first | apply Kd.V_alloc | apply Kd.V_drewN | apply Kd.V_drew)); exact HO_10.out) hb); replace HO_1169000 := Aside0.mk (Kd.V_below (by (with_reducible repeat (first | apply Kd.V_alloc | apply Kd.V_drewN | apply Kd.V_drew)); exact HO_1169000.out) hb); replace HO_1169001 := Aside0.mk (Kd.V_below (by (with_reducible repeat (first | apply Kd.V_alloc | apply Kd.V_drewN | apply Kd.V_drew)); exact HO_1169001.out) hb); replace HL1175_0 := Aside0.mk (Kd.V_below (by (with_reducible repeat (first | apply Kd.V_alloc | apply Kd.V_drewN | apply Kd.V_drew)); exact HL1175_0.out) hb); replace HL1175_1 := Aside0.mk (Kd.V_below (by (with_reducible repeat (first | apply Kd.V_alloc | apply Kd.V_drewN | apply Kd.V_drew)); exact HL1175_1.out) hb); replace BK1168 := bb_ BK1168 hb; replace HR1175_0 := Aside0.mk (Kd.C_below (by repeat (first | (with_reducible exact HR1175_0.out) | (with_reducible refine Kd.C_alloc ?_ _) | (with_reducible refine Kd.C_drewN ?_ _) | (with_reducible refine Kd.C_drew ?_) | exact HR1175_0.out)) hb); replace HR1175_1 := Aside0.mk (Kd.C_below (by repeat (first | (with_reducible exact HR1175_1.out) | (with_reducible refine Kd.C_alloc ?_ _) | (with_reducible refine Kd.C_drewN ?_ _) | (with_reducible refine Kd.C_drew ?_) | exact HR1175_1.out)) hb); replace BK1176 := bb_ BK1176 hb; replace HB := b1_ hb; clear hb; have hcz53_0 : w52.cell? ⟨gb1176, 0, none⟩ = some (.slice A1175_0 ((rd_T33 l0 x12_1).f0).length c1175_0) := cz0_ BK1176; have hcz53_1 : w52.cell? ⟨gb1176, 1, none⟩ = some (.slice A1175_1 ((rd_T33 l0 x12_1).f1).length c1175_1) := cz1_ BK1176; have hfz53_0 := blk_frozen BK1176.out 0; have hfz53_1 := blk_frozen BK1176.out 1) | ((with_reducible refine gate_builtin (b := .append) (xs := #[.tmp 30, .tmp 32]) rfl ?_); at_builtin; refine Kd.N_append k33 (w0 := w) w.heap.size rfl (.tmp 30) (.tmp 32) 25 33 (.agg #[(.slice none 0 0), (.slice none 0 0)]) 48 rfl Try.underlying25 info33 rfl (by decide) (by omega) u5 x5_1 (⟨(rd_T33 l0 x12_1).f0, (rd_T33 l0 x12_1).f1⟩ : S33) [.slice A1175_0 ((rd_T33 l0 x12_1).f0).length c1175_0, .slice A1175_1 ((rd_T33 l0 x12_1).f1).length c1175_1] (fun k_ => ((P0_ k_ ∨ P1_0_ k_ ∨ P1_1_ k_) ∨ w.heap.size ≤ k_) ∧ k_ ≠ gb1168 ∧ k_ ≠ gb1176) (fun k_ => ((fun k_ => ((P0_ k_ ∨ P1_0_ k_ ∨ P1_1_ k_) ∨ w.heap.size ≤ k_) ∧ k_ ≠ gb1168 ∧ k_ ≠ gb1176)) k_ ∧ some k_ ≠ (u5 : Value).ownBlock) rfl rfl ?aP (fun _ hk => hk) ?aF ?aO ?aB ?aS ?aL ?_; (case aP => exact (k33_mkF _ _ (⟨(rd_T33 l0 x12_1).f0, (rd_T33 l0 x12_1).f1⟩ : S33) (Kd.V_reads' (Kd.V_mono (ok' := (fun k_ => ((fun k_ => ((P0_ k_ ∨ P1_0_ k_ ∨ P1_1_ k_) ∨ w.heap.size ≤ k_) ∧ k_ ≠ gb1168 ∧ k_ ≠ gb1176)) k_ ∧ some k_ ≠ (u5 : Value).ownBlock)) (HL1175_0.out) (fun k_ hk => ⟨⟨hk.1.1, ⟨hk.1.2.2, hk.2⟩⟩, hk.1.2.1⟩))).2.1 (Kd.V_F (Kd.V_mono (ok' := (fun k_ => ((fun k_ => ((P0_ k_ ∨ P1_0_ k_ ∨ P1_1_ k_) ∨ w.heap.size ≤ k_) ∧ k_ ≠ gb1168 ∧ k_ ≠ gb1176)) k_ ∧ some k_ ≠ (u5 : Value).ownBlock)) (HL1175_0.out) (fun k_ hk => ⟨⟨hk.1.1, ⟨hk.1.2.2, hk.2⟩⟩, hk.1.2.1⟩))) (Kd.V_reads' (Kd.V_mono (ok' := (fun k_ => ((fun k_ => ((P0_ k_ ∨ P1_0_ k_ ∨ P1_1_ k_) ∨ w.heap.size ≤ k_) ∧ k_ ≠ gb1168 ∧ k_ ≠ gb1176)) k_ ∧ some k_ ≠ (u5 : Value).ownBlock)) (HL1175_1.out) (fun k_ hk => ⟨⟨hk.1.1, ⟨hk.1.2.2, hk.2⟩⟩, hk.1.2.1⟩))).2.1 (Kd.V_F (Kd.V_mono (ok' := (fun k_ => ((fun k_ => ((P0_ k_ ∨ P1_0_ k_ ∨ P1_1_ k_) ∨ w.heap.size ≤ k_) ∧ k_ ≠ gb1168 ∧ k_ ≠ gb1176)) k_ ∧ some k_ ≠ (u5 : Value).ownBlock)) (HL1175_1.out) (fun k_ hk => ⟨⟨hk.1.1, ⟨hk.1.2.2, hk.2⟩⟩, hk.1.2.1⟩))))); (case aB => exact hB_); (case aF => exact (fun k_ hk => ⟨(.inr (Nat.le_trans (below_size hB_) hk)), Kd.freshB (kk_ BK1168) k_ hk, Kd.freshB (kk_ BK1176) k_ hk⟩)); (case aO => exact (by (with_reducible repeat (first | apply Kd.N_alloc | apply Kd.N_drewN | apply Kd.N_drew)); exact Kd.N_mono HO_5.out (fun _ hk => ⟨hk.1.1, ⟨hk.1.2, hk.2⟩⟩))); (case aS => exact (below_size hB_)); (case aL => have := LMc44.out; omega); intro v1192 w54 ho hb hg hat; rw [← Ny1191.out] at ho; replace HO_10 := Aside0.mk (Kd.V_afterv (ok := (fun k_ => ((P0_ k_ ∨ P1_0_ k_ ∨ P1_1_ k_) ∨ w.heap.size ≤ k_) ∧ k_ ≠ gb1168 ∧ k_ ≠ gb1176)) (by (with_reducible repeat (first | apply Kd.V_alloc | apply Kd.V_drewN | apply Kd.V_drew)); exact Kd.V_mono HO_10.out (fun _ hk => ⟨⟨hk.1.1, ⟨hk.1.2.2, hk.2⟩⟩, hk.1.2.1⟩)) hg hat); replace HO_1169000 := Aside0.mk (Kd.V_afterv (ok := (fun k_ => ((P0_ k_ ∨ P1_0_ k_ ∨ P1_1_ k_) ∨ w.heap.size ≤ k_) ∧ k_ ≠ gb1168 ∧ k_ ≠ gb1176)) (by (with_reducible repeat (first | apply Kd.V_alloc | apply Kd.V_drewN | apply Kd.V_drew)); exact Kd.V_mono HO_1169000.out (fun _ hk => ⟨⟨hk.1.1, ⟨hk.1.2.2, hk.2⟩⟩, hk.1.2.1⟩)) hg hat); replace HO_1169001 := Aside0.mk (Kd.V_afterv (ok := (fun k_ => ((P0_ k_ ∨ P1_0_ k_ ∨ P1_1_ k_) ∨ w.heap.size ≤ k_) ∧ k_ ≠ gb1168 ∧ k_ ≠ gb1176)) (by (with_reducible repeat (first | apply Kd.V_alloc | apply Kd.V_drewN | apply Kd.V_drew)); exact Kd.V_mono HO_1169001.out (fun _ hk => ⟨⟨hk.1.1, ⟨hk.1.2.2, hk.2⟩⟩, hk.1.2.1⟩)) hg hat); replace BK1168 := Aside0.mk (blk_grown (kk_ BK1168) hg (Kd.N_away HO_5.out (fun _ hk => hk.1.2))); replace HL1175_0 := Aside0.mk (Kd.V_afterv (ok := (fun k_ => ((P0_ k_ ∨ P1_0_ k_ ∨ P1_1_ k_) ∨ w.heap.size ≤ k_) ∧ k_ ≠ gb1168 ∧ k_ ≠ gb1176)) (by (with_reducible repeat (first | apply Kd.V_alloc | apply Kd.V_drewN | apply Kd.V_drew)); exact Kd.V_mono HL1175_0.out (fun _ hk => ⟨⟨hk.1.1, ⟨hk.1.2.2, hk.2⟩⟩, hk.1.2.1⟩)) hg hat); replace HL1175_1 := Aside0.mk (Kd.V_afterv (ok := (fun k_ => ((P0_ k_ ∨ P1_0_ k_ ∨ P1_1_ k_) ∨ w.heap.size ≤ k_) ∧ k_ ≠ gb1168 ∧ k_ ≠ gb1176)) (by (with_reducible repeat (first | apply Kd.V_alloc | apply Kd.V_drewN | apply Kd.V_drew)); exact Kd.V_mono HL1175_1.out (fun _ hk => ⟨⟨hk.1.1, ⟨hk.1.2.2, hk.2⟩⟩, hk.1.2.1⟩)) hg hat); replace BK1176 := Aside0.mk (blk_grown (kk_ BK1176) hg (Kd.N_away HO_5.out (fun _ hk => hk.2))); replace HB := Aside0.mk hb; have HO1193 := Aside0.mk ho; clear HO_5; clear ho hb hg hat))
              go_roundg k1
              case measure => have := HK1.out; omega
              case rel => exact ⟨(y1191), (false), (wrap64 (x12_1 + 1)), qc_, qc_, H', ⟨by have := HK1.out; omega⟩, ⟨by (with_reducible repeat (first | apply Kd.N_alloc | apply Kd.N_drewN | apply Kd.N_drew)); exact Kd.N_mono HO1193.out (fun _ hk => ⟨hk.1, hk.2.1⟩)⟩, ⟨by (with_reducible repeat (first | apply Kd.V_alloc | apply Kd.V_drewN | apply Kd.V_drew)); exact Kd.V_mono HO_10.out (fun _ hk => ⟨hk.1.1, ⟨hk.2, hk.1.2.1⟩⟩)⟩, ⟨by (with_reducible repeat (first | apply Kd.V_alloc | apply Kd.V_drewN | apply Kd.V_drew)); exact Kd.V_mono HO_1169000.out (fun _ hk => ⟨hk.1.1, ⟨hk.2, hk.1.2.1⟩⟩)⟩, ⟨by (with_reducible repeat (first | apply Kd.V_alloc | apply Kd.V_drewN | apply Kd.V_drew)); exact Kd.V_mono HO_1169001.out (fun _ hk => ⟨hk.1.1, ⟨hk.2, hk.1.2.1⟩⟩)⟩, ⟨(kk_ BK1168)⟩, ⟨hB_⟩⟩
      · rw [if_neg c6] at H
        have c6b0 := decide_eq_false c6
        clear c6
        by_cases c55 : x6_1 = true
        · subst c55
          rw [if_pos rfl] at H
          obtain rfl := Option.some.inj H
          go_wp2
          go_ret
          exact ⟨_, qb_, by (with_reducible repeat (first | apply Kd.N_alloc | apply Kd.N_drewN | apply Kd.N_drew)); exact Kd.N_mono HO_5.out (fun _ hk => hk.1), hB_⟩
        · replace c55 := Bool.eq_false_iff.mpr c55
          subst c55
          have H1 : (if x5_1.length < 2932031007402 then (some (x5_1 ++ [(⟨l1_0, l1_1⟩ : S33)])) else (none)) = some r := by rw [if_neg (show ¬ (false = true) by decide)] at H; exact H
          clear H
          have H := H1
          clear H1
          have c56 := cp_ H
          replace H := ca_ H
          have LMc56 := Aside0.mk c56
          clear c56
          obtain ⟨y1172, hy1172⟩ : ∃ y_ : List (S33), y_ = (x5_1 ++ [(⟨l1_0, l1_1⟩ : S33)]) := ⟨_, rfl⟩
          replace H : (some y1172) = some r := by first | (rw [hy1172]; exact H) | exact H
          have Ny1172 := Aside0.mk hy1172
          clear hy1172
          obtain rfl := Option.some.inj H
          obtain ⟨hcz57_0, hcz57_1, hfz57_0, hfz57_1⟩ := c2_ BK1168
          go_wp2_with (first | ((with_reducible refine gate_builtin (b := .append) (xs := #[.tmp 37, .tmp 39]) rfl ?_); at_builtin; refine Kd.N_append k33 (w0 := w) w.heap.size rfl (.tmp 37) (.tmp 39) 25 33 (.agg #[(.slice none 0 0), (.slice none 0 0)]) 48 rfl Try.underlying25 info33 rfl (by decide) (by omega) u5 x5_1 (⟨l1_0, l1_1⟩ : S33) [.slice A1_0 l1_0.length c1_0, .slice A1_1 l1_1.length c1_1] (fun k_ => ((P0_ k_ ∨ P1_0_ k_ ∨ P1_1_ k_) ∨ w.heap.size ≤ k_) ∧ k_ ≠ gb1168) (fun k_ => ((fun k_ => ((P0_ k_ ∨ P1_0_ k_ ∨ P1_1_ k_) ∨ w.heap.size ≤ k_) ∧ k_ ≠ gb1168)) k_ ∧ some k_ ≠ (u5 : Value).ownBlock) rfl rfl ?aP (fun _ hk => hk) ?aF ?aO ?aB ?aS ?aL ?_; (case aP => exact (k33_mkF _ _ (⟨l1_0, l1_1⟩ : S33) (Kd.V_reads' (Kd.V_mono (ok' := (fun k_ => ((fun k_ => ((P0_ k_ ∨ P1_0_ k_ ∨ P1_1_ k_) ∨ w.heap.size ≤ k_) ∧ k_ ≠ gb1168)) k_ ∧ some k_ ≠ (u5 : Value).ownBlock)) (HO_1169000.out) (fun k_ hk => ⟨⟨hk.1, hk.2.2⟩, hk.2.1⟩))).2.1 (Kd.V_F (Kd.V_mono (ok' := (fun k_ => ((fun k_ => ((P0_ k_ ∨ P1_0_ k_ ∨ P1_1_ k_) ∨ w.heap.size ≤ k_) ∧ k_ ≠ gb1168)) k_ ∧ some k_ ≠ (u5 : Value).ownBlock)) (HO_1169000.out) (fun k_ hk => ⟨⟨hk.1, hk.2.2⟩, hk.2.1⟩))) (Kd.V_reads' (Kd.V_mono (ok' := (fun k_ => ((fun k_ => ((P0_ k_ ∨ P1_0_ k_ ∨ P1_1_ k_) ∨ w.heap.size ≤ k_) ∧ k_ ≠ gb1168)) k_ ∧ some k_ ≠ (u5 : Value).ownBlock)) (HO_1169001.out) (fun k_ hk => ⟨⟨hk.1, hk.2.2⟩, hk.2.1⟩))).2.1 (Kd.V_F (Kd.V_mono (ok' := (fun k_ => ((fun k_ => ((P0_ k_ ∨ P1_0_ k_ ∨ P1_1_ k_) ∨ w.heap.size ≤ k_) ∧ k_ ≠ gb1168)) k_ ∧ some k_ ≠ (u5 : Value).ownBlock)) (HO_1169001.out) (fun k_ hk => ⟨⟨hk.1, hk.2.2⟩, hk.2.1⟩))))); (case aB => exact hB_); (case aF => exact (fun k_ hk => ⟨(.inr (Nat.le_trans (below_size hB_) hk)), Kd.freshB (kk_ BK1168) k_ hk⟩)); (case aO => exact (by (with_reducible repeat (first | apply Kd.N_alloc | apply Kd.N_drewN | apply Kd.N_drew)); exact HO_5.out)); (case aS => exact (below_size hB_)); (case aL => have := LMc56.out; omega); intro v1173 w58 ho hb hg hat; rw [← Ny1172.out] at ho; replace HO_10 := Aside0.mk (Kd.V_afterv (ok := (fun k_ => ((P0_ k_ ∨ P1_0_ k_ ∨ P1_1_ k_) ∨ w.heap.size ≤ k_) ∧ k_ ≠ gb1168)) (by (with_reducible repeat (first | apply Kd.V_alloc | apply Kd.V_drewN | apply Kd.V_drew)); exact Kd.V_mono HO_10.out (fun _ hk => ⟨⟨hk.1, hk.2.2⟩, hk.2.1⟩)) hg hat); replace HO_1169000 := Aside0.mk (Kd.V_afterv (ok := (fun k_ => ((P0_ k_ ∨ P1_0_ k_ ∨ P1_1_ k_) ∨ w.heap.size ≤ k_) ∧ k_ ≠ gb1168)) (by (with_reducible repeat (first | apply Kd.V_alloc | apply Kd.V_drewN | apply Kd.V_drew)); exact Kd.V_mono HO_1169000.out (fun _ hk => ⟨⟨hk.1, hk.2.2⟩, hk.2.1⟩)) hg hat); replace HO_1169001 := Aside0.mk (Kd.V_afterv (ok := (fun k_ => ((P0_ k_ ∨ P1_0_ k_ ∨ P1_1_ k_) ∨ w.heap.size ≤ k_) ∧ k_ ≠ gb1168)) (by (with_reducible repeat (first | apply Kd.V_alloc | apply Kd.V_drewN | apply Kd.V_drew)); exact Kd.V_mono HO_1169001.out (fun _ hk => ⟨⟨hk.1, hk.2.2⟩, hk.2.1⟩)) hg hat); replace BK1168 := Aside0.mk (blk_grown (kk_ BK1168) hg (Kd.N_away HO_5.out (fun _ hk => hk.2))); replace HB := Aside0.mk hb; have HO1174 := Aside0.mk ho; clear HO_5; clear ho hb hg hat))
          go_ret
          exact ⟨_, qb_, by (with_reducible repeat (first | apply Kd.N_alloc | apply Kd.N_drewN | apply Kd.N_drew)); exact Kd.N_mono HO1174.out (fun _ hk => hk.1), hB_⟩
end Go.Proofs.Ytoijcallajegfaa.A
end
section
namespace Go.Proofs.Ytoijcallajegfaa.A
open Go.RowKit Go.Proofs.YtoijcallajegfaaW.PrintWords Go.Proofs.YtoijcallajegfaaW.PrintLast Go.Proofs.YtoijcallajegfaaW.PrintMore
attribute [local go_sem] max2_int min2_int max_two min_two max_three min_three max_four min_four
set_option linter.unusedVariables false
set_option linter.unusedSimpArgs false
mutual
def spec_SurfacesWith.l0 : Nat → List (S33) → List (List Int) → List (List Int) → Int → Int → Option ((List (S33)))
  | 0, _, _, _, _, _ => none
  | k + 1, x3, x4, x16, x17, x18 => if x18 < x17 then (if 0 ≤ x18 then (if x18 < (x16.length : Int) then (spec_SurfacesWith.l1 k x3 x4 (rd_L5 x16 x18) x16 x17 x18 x4 (x4.length : Int) 0) else (none)) else (none)) else (some x3)
def spec_SurfacesWith.l1 : Nat → List (S33) → List (List Int) → List Int → List (List Int) → Int → Int → List (List Int) → Int → Int → Option ((List (S33)))
  | 0, _, _, _, _, _, _, _, _, _ => none
  | k + 1, x3, x4, x6, x16, x17, x18, x22, x23, x24 => if x24 < x23 then (if 0 ≤ x24 then (if x24 < (x22.length : Int) then ((spec_SurfaceOk.f k x6 (rd_L5 x22 x24)).bind fun t1204 => (if t1204 = true then ((spec_l03Canon.f k x6 (rd_L5 x22 x24)).bind fun bt1205 => ((spec_l10Insert.f k x3 bt1205.1 bt1205.2).bind fun t1211 => (spec_SurfacesWith.l1 k t1211 x4 x6 x16 x17 x18 x22 x23 (wrap64 (x24 + 1))))) else (spec_SurfacesWith.l1 k x3 x4 x6 x16 x17 x18 x22 x23 (wrap64 (x24 + 1))))) else (none)) else (none)) else (spec_SurfacesWith.l0 k x3 x4 x16 x17 (wrap64 (x18 + 1)))
end
def spec_SurfacesWith.f (k : Nat) (a0 : Int) : Option ((List (S33))) := (spec_l01In.f a0 1 4).bind fun t1194 => (if t1194 = true then ((spec_l10Perms.f k a0).bind fun t1198 => (spec_SurfacesWith.l0 k (([] : List (S33))) t1198 t1198 (t1198.length : Int) 0)) else (some ([] : List (S33))))
theorem spec_SurfacesWith.mono_l : ∀ k, (∀ y0 y1 y2 y3 y4, LeO (spec_SurfacesWith.l0 k y0 y1 y2 y3 y4) (spec_SurfacesWith.l0 (k + 1) y0 y1 y2 y3 y4)) ∧ (∀ y0 y1 y2 y3 y4 y5 y6 y7 y8, LeO (spec_SurfacesWith.l1 k y0 y1 y2 y3 y4 y5 y6 y7 y8) (spec_SurfacesWith.l1 (k + 1) y0 y1 y2 y3 y4 y5 y6 y7 y8))
  | 0 => ⟨fun _ _ _ _ _ r h => by simp [spec_SurfacesWith.l0] at h, fun _ _ _ _ _ _ _ _ _ r h => by simp [spec_SurfacesWith.l1] at h⟩
  | k + 1 => by
    obtain ⟨ih0, ih1⟩ := spec_SurfacesWith.mono_l k
    refine ⟨?_, ?_⟩
    · intro y0 y1 y2 y3 y4
      unfold spec_SurfacesWith.l0
      repeat' first|exact ih0 _ _ _ _ _|exact ih1 _ _ _ _ _ _ _ _ _|exact spec_SurfaceOk.mono _ _ _|exact spec_l03Canon.mono _ _ _|exact spec_l10Insert.mono _ _ _ _|exact spec_l10Perms.mono _ _|exact lo_|refine LeO.ite ?_ ?_|refine LeO.bind ?_ (fun _ => ?_)
    · intro y0 y1 y2 y3 y4 y5 y6 y7 y8
      unfold spec_SurfacesWith.l1
      repeat' first|exact ih0 _ _ _ _ _|exact ih1 _ _ _ _ _ _ _ _ _|exact spec_SurfaceOk.mono _ _ _|exact spec_l03Canon.mono _ _ _|exact spec_l10Insert.mono _ _ _ _|exact spec_l10Perms.mono _ _|exact lo_|refine LeO.ite ?_ ?_|refine LeO.bind ?_ (fun _ => ?_)
theorem spec_SurfacesWith.mono : ∀ a0 k, LeO (spec_SurfacesWith.f k a0) (spec_SurfacesWith.f (k + 1) a0) := by
  intro a0 k
  obtain ⟨ih0, ih1⟩ := spec_SurfacesWith.mono_l k
  unfold spec_SurfacesWith.f
  repeat' first|exact ih0 _ _ _ _ _|exact ih1 _ _ _ _ _ _ _ _ _|exact spec_SurfaceOk.mono _ _ _|exact spec_l03Canon.mono _ _ _|exact spec_l10Insert.mono _ _ _ _|exact spec_l10Perms.mono _ _|exact lo_|refine LeO.ite ?_ ?_|refine LeO.bind ?_ (fun _ => ?_)
set_option maxHeartbeats 8000000 in
set_option maxRecDepth 100000 in
theorem spec_SurfacesWith.calls (k : Nat) (a0 : Int) (r : List (S33)) (w : World) (h : spec_SurfacesWith.f k a0 = some r) :
    Calls Try.prog 37 #[.int .i64 a0] w fun e w' => ∃ v0_ : Value, e = .returned (v0_) ∧ Kd.N k33 33 w' w.heap.size (fun k_ => (w.heap.size ≤ k_)) v0_ r ∧ Below w.heap.size w w' := by
  have hu33 := Try.underlying33
  have HB := Aside0.mk (Below.refl w.heap.size w)
  have H := h
  unfold spec_SurfacesWith.f at H
  clear h
  obtain ⟨t1194, A2, H⟩ := bi_ H
  by_cases c3 : t1194 = true
  · subst c3
    rw [if_pos rfl] at H
    obtain ⟨y1195, hy1195⟩ : ∃ y_ : List (S33), y_ = (([] : List (S33))) := ⟨_, rfl⟩
    replace H : ((spec_l10Perms.f k a0).bind fun t1198 => (spec_SurfacesWith.l0 k y1195 t1198 t1198 (t1198.length : Int) 0)) = some r := by first | (rw [hy1195]; exact H) | exact H
    have Ny1195 := Aside0.mk hy1195
    clear hy1195
    obtain ⟨t1198, A4, H⟩ := bi_ H
    have H' := Aside0.mk H
    clear H
    go_enter Try.func37, Try.ntmps37
    go_wp2_with (first | ((with_reducible refine gate_callee (f := 83) rfl ?_); refine gL_ (some 11) Try.func83 #[.int .i64 a0, .int .i64 1, .int .i64 4] rfl qa_ ?_; (with_reducible refine (spec_l01In.calls a0 1 4 true _ A2.out).mono ?_); rintro e w' ⟨rfl, ⟨nd, rfl⟩⟩; refine ⟨_, rfl, ?_⟩) | ((with_reducible refine gate_dst (N := 13) rfl ?_); refine Kd.N_lit k33 _ 33 ?hg (N' := 13) ?hd (xs := ([] : List (S33))) (inner := []) (ok := (fun k_ => (w.heap.size ≤ k_))) (okp := (fun k_ => (w.heap.size ≤ k_))) ?hr ?hp (fun _ hk => hk) ((show ∀ k_, w.heap.size ≤ k_ → (fun k_ => (w.heap.size ≤ k_)) k_ from fun k_ hk => (Nat.le_trans (below_size hB_) hk)) _ (Nat.le_refl _)) (Below.refl _ _) (Nat.le_refl _) (by simp) ?_; (case hd => rfl); (case hg => rfl); (case hr => first | (go_simp; done) | (go_simp; rfl)); (case hp => exact (Reps.none _ _)); intro v1196 w5 ho6 hb hg_ hnew_; clear hg_ hnew_; (first | rw [← Ny1195.out] at ho6 | (simp only [Int.reduceToNat] at ho6; rw [← Ny1195.out] at ho6)); have HO1197 := Aside0.mk (Kd.N_lower ho6 (below_size hB_)); replace HB := b1_ hb; clear hb ho6) | ((with_reducible refine gate_callee (f := 84) rfl ?_); refine gL_ (some 15) Try.func84 #[.int .i64 a0] rfl qa_ ?_; (with_reducible refine (spec_l10Perms.calls k a0 t1198 _ A4.out).mono ?_); rintro e w7 ⟨v1199, rfl, ho0, hb⟩; refine ⟨_, rfl, ?_⟩; have HO1200 := Aside0.mk (Kd.N_lower (Kd.N_mono (ok' := fun k_ => (w.heap.size ≤ k_) ∧ some k_ ≠ (v1196 : Value).ownBlock) ho0 (fun k_ hk_ => ⟨(Nat.le_trans (below_size hB_) hk_), (Kd.fresh' (Kd.N_lt (by (with_reducible repeat (first | apply Kd.N_alloc | apply Kd.N_drewN | apply Kd.N_drew)); exact HO1197.out)) k_ hk_)⟩)) (below_size hB_)); replace HO1197 := Aside0.mk (Kd.N_elder' (by (with_reducible repeat (first | apply Kd.N_alloc | apply Kd.N_drewN | apply Kd.N_drew)); exact HO1197.out) (Kd.N_base ho0) hb); replace HB := b1_ hb; clear hb ho0; obtain ⟨Ao8, co8, eo8⟩ := Kd.N_slice HO1200.out; subst eo8))
    go_loopg [3, 18] k (fun kq v3 v18 w' => ∃ (x3_1 : List (S33)) (x18_1 : Int), v18 = .int .i64 x18_1 ∧ Aside0 (spec_SurfacesWith.l0 kq x3_1 t1198 t1198 (t1198.length : Int) x18_1 = some r) ∧ Aside0 (kq ≤ k) ∧ Aside0 (Kd.N k33 33 w' w.heap.size (fun k_ => (w.heap.size ≤ k_) ∧ some k_ ≠ ((.slice Ao8 t1198.length co8) : Value).ownBlock ∧ some k_ ≠ ((.slice Ao8 t1198.length co8) : Value).ownBlock) v3 x3_1) ∧ Aside0 (Kd.N (Kd.slice 3 (Kd.int .i64)) 23 w' w.heap.size (fun k_ => (w.heap.size ≤ k_) ∧ some k_ ≠ (v3 : Value).ownBlock) (.slice Ao8 t1198.length co8) t1198) ∧ Aside0 (Kd.N (Kd.slice 3 (Kd.int .i64)) 23 w' w.heap.size (fun k_ => (w.heap.size ≤ k_) ∧ some k_ ≠ (v3 : Value).ownBlock) (.slice Ao8 t1198.length co8) t1198) ∧ Aside0 (Below w.heap.size w w'))
    case atStart => exact ⟨(y1195), (0), qc_, H', ⟨Nat.le_refl _⟩, ⟨by (with_reducible repeat (first | apply Kd.N_alloc | apply Kd.N_drewN | apply Kd.N_drew)); exact Kd.N_mono HO1197.out (fun _ hk => ⟨hk.1, ⟨hk.2, hk.2⟩⟩)⟩, ⟨by (with_reducible repeat (first | apply Kd.N_alloc | apply Kd.N_drewN | apply Kd.N_drew)); exact HO1200.out⟩, ⟨by (with_reducible repeat (first | apply Kd.N_alloc | apply Kd.N_drewN | apply Kd.N_drew)); exact HO1200.out⟩, ⟨hB_⟩⟩
    case round =>
      clear H'
      obtain ⟨x3_1, x18_1, rfl, HA, HK1, HO_3, HO_4, HO_16, HB⟩ := hrel
      cases gk with
      | zero => exact absurd HA.out (by simp [spec_SurfacesWith.l0])
      | succ k1 =>
        have H := HA.out
        clear HA
        simp only [spec_SurfacesWith.l0] at H
        by_cases c9 : x18_1 < (t1198.length : Int)
        · rw [if_pos c9] at H
          have c9b0 := decide_eq_true c9
          clear c9
          have c10 := cp_ H
          replace H := ca_ H
          have c10b0 := decide_eq_true c10
          clear c10
          have c11 := cp_ H
          replace H := ca_ H
          have c11b0 := decide_eq_true c11
          clear c11
          have H' := Aside0.mk H
          clear H
          have p1201 : 0 ≤ (x18_1 : Int) := of_decide_eq_true qe_
          have q1201 : x18_1 < (t1198.length : Int) := of_decide_eq_true qe_
          obtain ⟨ad1201, A1201_0, c1201_0, e1201, hx1201_0, hl1201_0, hi1201_0⟩ := at_L5 (Kd.N_reads' HO_16.out).2.2 x18_1 p1201 q1201
          cases e1201
          obtain ⟨ce1201, hce1201, hMe1201, hcc1201⟩ := Kd.N_get HO_16.out [] x18_1 p1201 (by first | exact q1201 | exact of_decide_eq_true qe_ | (have e_ := (Kd.N_reads' HO_16.out).1; omega))
          obtain ⟨ua1201_0, uc1201_0, rfl, ul1201_0, ge1201_0⟩ := Kd.FK_slice_open hMe1201
          have hv1201_0 := hcc1201 0 _ rfl
          rw [Nat.add_zero, show ((Kd.slice 3 (Kd.int .i64))).sz = 1 from rfl, Nat.mul_one] at hv1201_0
          replace hv1201_0 := Option.some.inj (hv1201_0.symm.trans hx1201_0)
          injection hv1201_0 with hva_ hvn_ hvc_
          rw [hva_] at ge1201_0
          rw [hvc_] at ul1201_0
          have HL1201_0 := Aside0.mk (show Kd.V (Kd.int .i64) 3 _ w.heap.size _ _ (rd_L5 t1198 x18_1) from Kd.V_mk ul1201_0 ge1201_0)
          clear hva_ hvn_ hvc_ ge1201_0 ul1201_0
          clear hcc1201 hce1201
          have HR1201_0 := Aside0.mk hi1201_0
          have HC1201_0 := Aside0.mk hl1201_0
          clear hi1201_0 hl1201_0
          replace p1201 := eq_true p1201
          replace q1201 := eq_true q1201
          go_wp2
          go_loopg [3, 24] k1 (fun kq v3 v24 w' => ∃ (x3_2 : List (S33)) (x24_2 : Int), v24 = .int .i64 x24_2 ∧ Aside0 (spec_SurfacesWith.l1 kq x3_2 t1198 (rd_L5 t1198 x18_1) t1198 (t1198.length : Int) x18_1 t1198 (t1198.length : Int) x24_2 = some r) ∧ Aside0 (kq ≤ k1) ∧ Aside0 (Kd.N k33 33 w' w.heap.size (fun k_ => (w.heap.size ≤ k_) ∧ some k_ ≠ ((.slice (some ad1201) t1198.length co8) : Value).ownBlock ∧ some k_ ≠ ((.slice (some ad1201) t1198.length co8) : Value).ownBlock ∧ some k_ ≠ ((.slice (some ad1201) t1198.length co8) : Value).ownBlock) v3 x3_2) ∧ Aside0 (Kd.N (Kd.slice 3 (Kd.int .i64)) 23 w' w.heap.size (fun k_ => (w.heap.size ≤ k_) ∧ some k_ ≠ (v3 : Value).ownBlock) (.slice (some ad1201) t1198.length co8) t1198) ∧ Aside0 (Kd.V (Kd.int .i64) 3 w' w.heap.size (fun k_ => (w.heap.size ≤ k_) ∧ some k_ ≠ (v3 : Value).ownBlock ∧ some k_ ≠ ((.slice (some ad1201) t1198.length co8) : Value).ownBlock) (.slice A1201_0 (rd_L5 t1198 x18_1).length c1201_0) (rd_L5 t1198 x18_1)) ∧ Aside0 (Kd.N (Kd.slice 3 (Kd.int .i64)) 23 w' w.heap.size (fun k_ => (w.heap.size ≤ k_) ∧ some k_ ≠ (v3 : Value).ownBlock) (.slice (some ad1201) t1198.length co8) t1198) ∧ Aside0 (Kd.N (Kd.slice 3 (Kd.int .i64)) 23 w' w.heap.size (fun k_ => (w.heap.size ≤ k_) ∧ some k_ ≠ (v3 : Value).ownBlock) (.slice (some ad1201) t1198.length co8) t1198) ∧ Aside0 (Below w.heap.size w w'))
          case atStart => exact ⟨(x3_1), (0), qc_, H', ⟨Nat.le_refl _⟩, ⟨by (with_reducible repeat (first | apply Kd.N_alloc | apply Kd.N_drewN | apply Kd.N_drew)); exact Kd.N_mono HO_3.out (fun _ hk => ⟨hk.1, ⟨hk.2.1, ⟨hk.2.2, hk.2.1⟩⟩⟩)⟩, ⟨by (with_reducible repeat (first | apply Kd.N_alloc | apply Kd.N_drewN | apply Kd.N_drew)); exact HO_4.out⟩, ⟨by (with_reducible repeat (first | apply Kd.V_alloc | apply Kd.V_drewN | apply Kd.V_drew)); exact Kd.V_mono HL1201_0.out (fun _ hk => ⟨hk.1.1, ⟨hk.1.2, hk.2⟩⟩)⟩, ⟨by (with_reducible repeat (first | apply Kd.N_alloc | apply Kd.N_drewN | apply Kd.N_drew)); exact HO_16.out⟩, ⟨by (with_reducible repeat (first | apply Kd.N_alloc | apply Kd.N_drewN | apply Kd.N_drew)); exact HO_4.out⟩, ⟨hB_⟩⟩
          case round =>
            clear H'
            obtain ⟨x3_2, x24_2, rfl, HA, HK2, HO_3, HO_4, HO_6, HO_16, HO_22, HB⟩ := hrel
            cases gk with
            | zero => exact absurd HA.out (by simp [spec_SurfacesWith.l1])
            | succ k2 =>
              have H := HA.out
              clear HA
              simp only [spec_SurfacesWith.l1] at H
              by_cases c12 : x24_2 < (t1198.length : Int)
              · rw [if_pos c12] at H
                have c12b0 := decide_eq_true c12
                clear c12
                have c13 := cp_ H
                replace H := ca_ H
                have c13b0 := decide_eq_true c13
                clear c13
                have c14 := cp_ H
                replace H := ca_ H
                have c14b0 := decide_eq_true c14
                clear c14
                obtain ⟨t1204, A15, H⟩ := bi_ H
                by_cases c16 : t1204 = true
                · subst c16
                  rw [if_pos rfl] at H
                  obtain ⟨⟨t1205, t1208⟩, A17, H⟩ := bi_ H
                  try dsimp only at H
                  obtain ⟨t1211, A18, H⟩ := bi_ H
                  have H' := Aside0.mk H
                  clear H
                  have p1202 : 0 ≤ (x24_2 : Int) := of_decide_eq_true qe_
                  have q1202 : x24_2 < (t1198.length : Int) := of_decide_eq_true qe_
                  obtain ⟨ad1202, A1202_0, c1202_0, e1202, hx1202_0, hl1202_0, hi1202_0⟩ := at_L5 (Kd.N_reads' HO_22.out).2.2 x24_2 p1202 q1202
                  obtain rfl : ad1201 = ad1202 := (by injection e1202)
                  obtain ⟨ce1202, hce1202, hMe1202, hcc1202⟩ := Kd.N_get HO_22.out [] x24_2 p1202 (by first | exact q1202 | exact of_decide_eq_true qe_ | (have e_ := (Kd.N_reads' HO_22.out).1; omega))
                  obtain ⟨ua1202_0, uc1202_0, rfl, ul1202_0, ge1202_0⟩ := Kd.FK_slice_open hMe1202
                  have hv1202_0 := hcc1202 0 _ rfl
                  rw [Nat.add_zero, show ((Kd.slice 3 (Kd.int .i64))).sz = 1 from rfl, Nat.mul_one] at hv1202_0
                  replace hv1202_0 := Option.some.inj (hv1202_0.symm.trans hx1202_0)
                  injection hv1202_0 with hva_ hvn_ hvc_
                  rw [hva_] at ge1202_0
                  rw [hvc_] at ul1202_0
                  have HL1202_0 := Aside0.mk (show Kd.V (Kd.int .i64) 3 _ w.heap.size _ _ (rd_L5 t1198 x24_2) from Kd.V_mk ul1202_0 ge1202_0)
                  clear hva_ hvn_ hvc_ ge1202_0 ul1202_0
                  clear hcc1202 hce1202
                  have HR1202_0 := Aside0.mk hi1202_0
                  have HC1202_0 := Aside0.mk hl1202_0
                  clear hi1202_0 hl1202_0
                  replace p1202 := eq_true p1202
                  replace q1202 := eq_true q1202
                  go_wp2_with (first | ((with_reducible refine gate_dst (N := 9) rfl ?_); refine bx_ 9 #[.slice none 0 0, .slice none 0 0] 33 ?_; intro gb1203 hg w19 hbox hb; replace HO_3 := Aside0.mk (Kd.N_below (Kd.N_elderB (by (with_reducible repeat (first | apply Kd.N_alloc | apply Kd.N_drewN | apply Kd.N_drew)); exact HO_3.out) gb1203 (Nat.le_of_eq hg.symm)) hb); replace HO_4 := Aside0.mk (Kd.N_below (Kd.N_elderB (by (with_reducible repeat (first | apply Kd.N_alloc | apply Kd.N_drewN | apply Kd.N_drew)); exact HO_4.out) gb1203 (Nat.le_of_eq hg.symm)) hb); replace HO_6 := Aside0.mk (Kd.V_below (Kd.V_elderB (by (with_reducible repeat (first | apply Kd.V_alloc | apply Kd.V_drewN | apply Kd.V_drew)); exact HO_6.out) gb1203 (Nat.le_of_eq hg.symm)) hb); replace HO_16 := Aside0.mk (Kd.N_below (Kd.N_elderB (by (with_reducible repeat (first | apply Kd.N_alloc | apply Kd.N_drewN | apply Kd.N_drew)); exact HO_16.out) gb1203 (Nat.le_of_eq hg.symm)) hb); replace HO_22 := Aside0.mk (Kd.N_below (Kd.N_elderB (by (with_reducible repeat (first | apply Kd.N_alloc | apply Kd.N_drewN | apply Kd.N_drew)); exact HO_22.out) gb1203 (Nat.le_of_eq hg.symm)) hb); replace HL1202_0 := Aside0.mk (Kd.V_below (Kd.V_elderB (by (with_reducible repeat (first | apply Kd.V_alloc | apply Kd.V_drewN | apply Kd.V_drew)); exact HL1202_0.out) gb1203 (Nat.le_of_eq hg.symm)) hb); replace HR1202_0 := Aside0.mk (Kd.C_below (by repeat (first | (with_reducible exact HR1202_0.out) | (with_reducible refine Kd.C_alloc ?_ _) | (with_reducible refine Kd.C_drewN ?_ _) | (with_reducible refine Kd.C_drew ?_) | exact HR1202_0.out)) hb); have BK1203 := Aside0.mk hbox; have GW1203 := gw_ w hg; have GE1203 := GW1203; replace HB := b1_ hb; clear hb hbox hg; obtain ⟨hcz20_0, hcz20_1, hfz20_0, hfz20_1⟩ := c2_ BK1203) | ((with_reducible refine gate_callee (f := 85) rfl ?_); refine gL_ (some 32) Try.func85 #[.agg #[.slice A1201_0 (rd_L5 t1198 x18_1).length c1201_0, .slice A1202_0 (rd_L5 t1198 x24_2).length c1202_0]] rfl qa_ ?_; (with_reducible refine (spec_SurfaceOk.calls k2 _ _ (rd_L5 t1198 x18_1) _ _ (rd_L5 t1198 x24_2) true _ ?side1 ?side2 ?side3 ?side4 A15.out).mono ?_); (case side1 => refine (Kd.V_reads' (e := 3) (base := w.heap.size) (ok := fun k_ => (((w.heap.size ≤ k_) ∧ (some k_ ≠ (u3 : Value).ownBlock ∧ some k_ ≠ (.slice (some ad1201) t1198.length co8 : Value).ownBlock)) ∧ k_ ≠ gb1203)) (n := (rd_L5 t1198 x18_1).length) (c := c1201_0) ?_).2.2; exact (by (with_reducible repeat (first | apply Kd.V_alloc | apply Kd.V_drewN | apply Kd.V_drew)); exact (Kd.V_mono (Kd.V_far (p := ⟨gb1203, 1, none⟩) (Kd.V_far (p := ⟨gb1203, 0, none⟩) (Kd.V_mono HO_6.out (fun k_ hk => (⟨hk, hk.2⟩ : _ ∧ k_ ≠ gb1203))) (fun _ hk => hk.2) (.slice A1201_0 (rd_L5 t1198 x18_1).length c1201_0)) (fun _ hk => hk.2) (.slice A1202_0 (rd_L5 t1198 x24_2).length c1202_0)) (fun _ h_ => h_.1)))); (case side2 => exact (Kd.V_reads' HO_6.out).2.1); (case side3 => repeat (first | exact ((Kd.V_reads' (by (with_reducible repeat (first | apply Kd.V_alloc | apply Kd.V_drewN | apply Kd.V_drew)); exact (Kd.V_mono (Kd.V_far (p := ⟨gb1203, 1, none⟩) (Kd.V_far (p := ⟨gb1203, 0, none⟩) (Kd.V_mono HL1202_0.out (fun k_ hk => (⟨hk, hk.2⟩ : _ ∧ k_ ≠ gb1203))) (fun _ hk => hk.2) (.slice A1201_0 (rd_L5 t1198 x18_1).length c1201_0)) (fun _ hk => hk.2) (.slice A1202_0 (rd_L5 t1198 x24_2).length c1202_0)) (fun _ h_ => h_.1)))).2.2) | (with_reducible refine Kd.C_alloc ?_ _) | (with_reducible refine Kd.C_drewN ?_ _) | (with_reducible refine Kd.C_drew ?_))); (case side4 => exact HC1202_0.out); rintro e w21 ⟨rfl, hb⟩; refine ⟨_, rfl, ?_⟩; replace HO_3 := Aside0.mk (Kd.N_below (by (with_reducible repeat (first | apply Kd.N_alloc | apply Kd.N_drewN | apply Kd.N_drew)); exact (Kd.N_mono (Kd.N_far (p := ⟨gb1203, 1, none⟩) (Kd.N_far (p := ⟨gb1203, 0, none⟩) (Kd.N_mono HO_3.out (fun k_ hk => (⟨hk, hk.2⟩ : _ ∧ k_ ≠ gb1203))) (fun _ hk => hk.2) (.slice A1201_0 (rd_L5 t1198 x18_1).length c1201_0)) (fun _ hk => hk.2) (.slice A1202_0 (rd_L5 t1198 x24_2).length c1202_0)) (fun _ h_ => h_.1))) hb); replace HO_4 := Aside0.mk (Kd.N_below (by (with_reducible repeat (first | apply Kd.N_alloc | apply Kd.N_drewN | apply Kd.N_drew)); exact (Kd.N_mono (Kd.N_far (p := ⟨gb1203, 1, none⟩) (Kd.N_far (p := ⟨gb1203, 0, none⟩) (Kd.N_mono HO_4.out (fun k_ hk => (⟨hk, hk.2⟩ : _ ∧ k_ ≠ gb1203))) (fun _ hk => hk.2) (.slice A1201_0 (rd_L5 t1198 x18_1).length c1201_0)) (fun _ hk => hk.2) (.slice A1202_0 (rd_L5 t1198 x24_2).length c1202_0)) (fun _ h_ => h_.1))) hb); replace HO_6 := Aside0.mk (Kd.V_below (by (with_reducible repeat (first | apply Kd.V_alloc | apply Kd.V_drewN | apply Kd.V_drew)); exact (Kd.V_mono (Kd.V_far (p := ⟨gb1203, 1, none⟩) (Kd.V_far (p := ⟨gb1203, 0, none⟩) (Kd.V_mono HO_6.out (fun k_ hk => (⟨hk, hk.2⟩ : _ ∧ k_ ≠ gb1203))) (fun _ hk => hk.2) (.slice A1201_0 (rd_L5 t1198 x18_1).length c1201_0)) (fun _ hk => hk.2) (.slice A1202_0 (rd_L5 t1198 x24_2).length c1202_0)) (fun _ h_ => h_.1))) hb); replace HO_16 := Aside0.mk (Kd.N_below (by (with_reducible repeat (first | apply Kd.N_alloc | apply Kd.N_drewN | apply Kd.N_drew)); exact (Kd.N_mono (Kd.N_far (p := ⟨gb1203, 1, none⟩) (Kd.N_far (p := ⟨gb1203, 0, none⟩) (Kd.N_mono HO_16.out (fun k_ hk => (⟨hk, hk.2⟩ : _ ∧ k_ ≠ gb1203))) (fun _ hk => hk.2) (.slice A1201_0 (rd_L5 t1198 x18_1).length c1201_0)) (fun _ hk => hk.2) (.slice A1202_0 (rd_L5 t1198 x24_2).length c1202_0)) (fun _ h_ => h_.1))) hb); replace HO_22 := Aside0.mk (Kd.N_below (by (with_reducible repeat (first | apply Kd.N_alloc | apply Kd.N_drewN | apply Kd.N_drew)); exact (Kd.N_mono (Kd.N_far (p := ⟨gb1203, 1, none⟩) (Kd.N_far (p := ⟨gb1203, 0, none⟩) (Kd.N_mono HO_22.out (fun k_ hk => (⟨hk, hk.2⟩ : _ ∧ k_ ≠ gb1203))) (fun _ hk => hk.2) (.slice A1201_0 (rd_L5 t1198 x18_1).length c1201_0)) (fun _ hk => hk.2) (.slice A1202_0 (rd_L5 t1198 x24_2).length c1202_0)) (fun _ h_ => h_.1))) hb); replace HR1202_0 := Aside0.mk (Kd.C_below ((Kd.V_reads' (by (with_reducible repeat (first | apply Kd.V_alloc | apply Kd.V_drewN | apply Kd.V_drew)); exact (Kd.V_mono (Kd.V_far (p := ⟨gb1203, 1, none⟩) (Kd.V_far (p := ⟨gb1203, 0, none⟩) (Kd.V_mono HL1202_0.out (fun k_ hk => (⟨hk, hk.2⟩ : _ ∧ k_ ≠ gb1203))) (fun _ hk => hk.2) (.slice A1201_0 (rd_L5 t1198 x18_1).length c1201_0)) (fun _ hk => hk.2) (.slice A1202_0 (rd_L5 t1198 x24_2).length c1202_0)) (fun _ h_ => h_.1)))).2.2) hb); replace HL1202_0 := Aside0.mk (Kd.V_below (by (with_reducible repeat (first | apply Kd.V_alloc | apply Kd.V_drewN | apply Kd.V_drew)); exact (Kd.V_mono (Kd.V_far (p := ⟨gb1203, 1, none⟩) (Kd.V_far (p := ⟨gb1203, 0, none⟩) (Kd.V_mono HL1202_0.out (fun k_ hk => (⟨hk, hk.2⟩ : _ ∧ k_ ≠ gb1203))) (fun _ hk => hk.2) (.slice A1201_0 (rd_L5 t1198 x18_1).length c1201_0)) (fun _ hk => hk.2) (.slice A1202_0 (rd_L5 t1198 x24_2).length c1202_0)) (fun _ h_ => h_.1))) hb); replace BK1203 := Aside0.mk (blk_below (g := gb1203) (o := .cells #[.slice A1201_0 (rd_L5 t1198 x18_1).length c1201_0, .slice A1202_0 (rd_L5 t1198 x24_2).length c1202_0] 33 (0, 0)) qp_ hb); replace HB := b1_ hb; clear hb; obtain ⟨hcz22_0, hcz22_1, hfz22_0, hfz22_1⟩ := c2_ BK1203) | ((with_reducible refine gate_callee (f := 87) rfl ?_); refine gL_ (some 35) Try.func87 #[.agg #[.slice A1201_0 (rd_L5 t1198 x18_1).length c1201_0, .slice A1202_0 (rd_L5 t1198 x24_2).length c1202_0]] rfl qa_ ?_; (with_reducible refine (spec_l03Canon.calls k2 _ _ (rd_L5 t1198 x18_1) _ _ (rd_L5 t1198 x24_2) t1205 t1208 _ ?side1 ?side2 ?side3 ?side4 A17.out).mono ?_); (case side1 => exact cw_ ((Kd.V_reads' HO_6.out).2.2)); (case side2 => exact (Kd.V_reads' HO_6.out).2.1); (case side3 => repeat (first | exact (by repeat (first | (with_reducible exact HR1202_0.out) | (with_reducible refine Kd.C_alloc ?_ _) | (with_reducible refine Kd.C_drewN ?_ _) | (with_reducible refine Kd.C_drew ?_) | exact HR1202_0.out)) | (with_reducible refine Kd.C_alloc ?_ _) | (with_reducible refine Kd.C_drewN ?_ _) | (with_reducible refine Kd.C_drew ?_))); (case side4 => exact HC1202_0.out); rintro e w23 ⟨v1206, v1209, rfl, ho0, ho1, hb⟩; refine ⟨_, rfl, ?_⟩; replace HO_3 := Aside0.mk (Kd.N_mono (Kd.N_told (Kd.N_told (Kd.N_old (by (with_reducible repeat (first | apply Kd.N_alloc | apply Kd.N_drewN | apply Kd.N_drew)); exact HO_3.out) hb) (Kd.R_base ho0)) (Kd.R_base ho1)) (fun _ h_ => h_.1)); replace HO_4 := Aside0.mk (Kd.N_mono (Kd.N_told (Kd.N_told (Kd.N_old (by (with_reducible repeat (first | apply Kd.N_alloc | apply Kd.N_drewN | apply Kd.N_drew)); exact HO_4.out) hb) (Kd.R_base ho0)) (Kd.R_base ho1)) (fun _ h_ => h_.1)); replace HO_6 := Aside0.mk (Kd.V_mono (Kd.V_told (Kd.V_told (Kd.V_old (by (with_reducible repeat (first | apply Kd.V_alloc | apply Kd.V_drewN | apply Kd.V_drew)); exact HO_6.out) hb) (Kd.R_base ho0)) (Kd.R_base ho1)) (fun _ h_ => h_.1)); replace HO_16 := Aside0.mk (Kd.N_mono (Kd.N_told (Kd.N_told (Kd.N_old (by (with_reducible repeat (first | apply Kd.N_alloc | apply Kd.N_drewN | apply Kd.N_drew)); exact HO_16.out) hb) (Kd.R_base ho0)) (Kd.R_base ho1)) (fun _ h_ => h_.1)); replace HO_22 := Aside0.mk (Kd.N_mono (Kd.N_told (Kd.N_told (Kd.N_old (by (with_reducible repeat (first | apply Kd.N_alloc | apply Kd.N_drewN | apply Kd.N_drew)); exact HO_22.out) hb) (Kd.R_base ho0)) (Kd.R_base ho1)) (fun _ h_ => h_.1)); replace HL1202_0 := Aside0.mk (Kd.V_mono (Kd.V_told (Kd.V_told (Kd.V_old (by (with_reducible repeat (first | apply Kd.V_alloc | apply Kd.V_drewN | apply Kd.V_drew)); exact HL1202_0.out) hb) (Kd.R_base ho0)) (Kd.R_base ho1)) (fun _ h_ => h_.1)); have HO1207 := Aside0.mk (Kd.R_lower (Kd.R_newM (M := fun k_ => (w.heap.size ≤ k_)) ho0 (below_size hB_) (fun k_ h_ => h_)) (below_size hB_)); have HO1210 := Aside0.mk (Kd.R_lower (Kd.R_newM (M := fun k_ => (w.heap.size ≤ k_)) ho1 (below_size hB_) (fun k_ h_ => h_)) (below_size hB_)); replace HR1202_0 := Aside0.mk (Kd.C_below (by repeat (first | (with_reducible exact HR1202_0.out) | (with_reducible refine Kd.C_alloc ?_ _) | (with_reducible refine Kd.C_drewN ?_ _) | (with_reducible refine Kd.C_drew ?_) | exact HR1202_0.out)) hb); replace BK1203 := bb_ BK1203 hb; replace HB := b1_ hb; clear hb ho0 ho1; obtain ⟨Ao24, co24, eo24⟩ := Kd.N_slice HO_3.out; subst eo24; obtain ⟨Ao25, co25, eo25⟩ := Kd.R_slice HO1207.out; subst eo25; obtain ⟨Ao26, co26, eo26⟩ := Kd.R_slice HO1210.out; subst eo26) | ((with_reducible refine gate_callee (f := 86) rfl ?_); refine gL_ (some 36) Try.func86 #[.slice Ao24 x3_2.length co24, .agg #[.slice Ao25 t1205.length co25, .slice Ao26 t1208.length co26]] rfl qa_ ?_; (with_reducible refine (spec_l10Insert.calls k2 (fun k_ => (((((w.heap.size ≤ k_) ∧ (some k_ ≠ (.slice (some ad1201) t1198.length co8 : Value).ownBlock ∧ (some k_ ≠ (.slice (some ad1201) t1198.length co8 : Value).ownBlock ∧ some k_ ≠ (.slice (some ad1201) t1198.length co8 : Value).ownBlock))) ∧ k_ ≠ gb1203) ∧ some k_ ≠ (.slice Ao25 t1205.length co25 : Value).ownBlock) ∧ some k_ ≠ (.slice Ao26 t1208.length co26 : Value).ownBlock)) _ _ x3_2 (fun k_ => some k_ = (.slice Ao25 t1205.length co25 : Value).ownBlock) _ _ t1205 (fun k_ => some k_ = (.slice Ao26 t1208.length co26 : Value).ownBlock) _ _ t1208 t1211 _ (Kd.N_V (HO_3.out)) (Kd.R_V (Kd.R_tight rfl (Kd.R_types (Kd.R_apart' (Kd.R_apart' (Kd.R_apart' (Kd.R_apart' (HO1207.out) (Kd.N_typed HO_3.out) (by decide)) (Kd.N_typed HO_4.out) (by decide)) (Kd.N_typed HO_16.out) (by decide)) (Kd.N_typed HO_22.out) (by decide)) BK1203.out (by decide)))) (Kd.R_V (Kd.R_tight rfl (Kd.R_types (Kd.R_apart' (Kd.R_apart' (Kd.R_apart' (Kd.R_apart' (HO1210.out) (Kd.N_typed HO_3.out) (by decide)) (Kd.N_typed HO_4.out) (by decide)) (Kd.N_typed HO_16.out) (by decide)) (Kd.N_typed HO_22.out) (by decide)) BK1203.out (by decide)))) A18.out).mono ?_); rintro e w27 ⟨v1212, rfl, ho0, hb⟩; refine ⟨_, rfl, ?_⟩; replace HO_6 := Aside0.mk (Kd.V_elder' (by (with_reducible repeat (first | apply Kd.V_alloc | apply Kd.V_drewN | apply Kd.V_drew)); exact HO_6.out) (Kd.N_base ho0) hb); replace HL1202_0 := Aside0.mk (Kd.V_elder' (by (with_reducible repeat (first | apply Kd.V_alloc | apply Kd.V_drewN | apply Kd.V_drew)); exact HL1202_0.out) (Kd.N_base ho0) hb); have HO1213 := Aside0.mk (Kd.N_lower (Kd.N_mono (ok' := fun k_ => (w.heap.size ≤ k_) ∧ some k_ ≠ (.slice (some ad1201) t1198.length co8 : Value).ownBlock ∧ some k_ ≠ (.slice (some ad1201) t1198.length co8 : Value).ownBlock ∧ some k_ ≠ (.slice (some ad1201) t1198.length co8 : Value).ownBlock ∧ k_ ≠ gb1203) ho0 (fun k_ hk_ => ⟨Or.elim hk_ (fun hs_ => Or.elim hs_ (fun hs_ => hs_.1.1.1.1) (fun hs_ => Or.elim hs_ (fun hs_ => ((Kd.R_types (Kd.R_apart' (Kd.R_apart' (Kd.R_apart' (Kd.R_apart' (HO1207.out) (Kd.N_typed HO_3.out) (by decide)) (Kd.N_typed HO_4.out) (by decide)) (Kd.N_typed HO_16.out) (by decide)) (Kd.N_typed HO_22.out) (by decide)) BK1203.out (by decide)).1 k_ hs_.symm).1.1.1.1.1.1) (fun hs_ => ((Kd.R_types (Kd.R_apart' (Kd.R_apart' (Kd.R_apart' (Kd.R_apart' (HO1210.out) (Kd.N_typed HO_3.out) (by decide)) (Kd.N_typed HO_4.out) (by decide)) (Kd.N_typed HO_16.out) (by decide)) (Kd.N_typed HO_22.out) (by decide)) BK1203.out (by decide)).1 k_ hs_.symm).1.1.1.1.1.1))) (fun hn_ => (Nat.le_trans (below_size hB_) hn_)), Or.elim hk_ (fun hs_ => Or.elim hs_ (fun hs_ => hs_.1.1.1.2.1) (fun hs_ => Or.elim hs_ (fun hs_ => ((Kd.R_types (Kd.R_apart' (Kd.R_apart' (Kd.R_apart' (Kd.R_apart' (HO1207.out) (Kd.N_typed HO_3.out) (by decide)) (Kd.N_typed HO_4.out) (by decide)) (Kd.N_typed HO_16.out) (by decide)) (Kd.N_typed HO_22.out) (by decide)) BK1203.out (by decide)).1 k_ hs_.symm).1.1.1.2) (fun hs_ => ((Kd.R_types (Kd.R_apart' (Kd.R_apart' (Kd.R_apart' (Kd.R_apart' (HO1210.out) (Kd.N_typed HO_3.out) (by decide)) (Kd.N_typed HO_4.out) (by decide)) (Kd.N_typed HO_16.out) (by decide)) (Kd.N_typed HO_22.out) (by decide)) BK1203.out (by decide)).1 k_ hs_.symm).1.1.1.2))) (fun hn_ => (Kd.fresh' (Kd.N_lt (by (with_reducible repeat (first | apply Kd.N_alloc | apply Kd.N_drewN | apply Kd.N_drew)); exact HO_4.out)) k_ hn_)), Or.elim hk_ (fun hs_ => Or.elim hs_ (fun hs_ => hs_.1.1.1.2.2.1) (fun hs_ => Or.elim hs_ (fun hs_ => ((Kd.R_types (Kd.R_apart' (Kd.R_apart' (Kd.R_apart' (Kd.R_apart' (HO1207.out) (Kd.N_typed HO_3.out) (by decide)) (Kd.N_typed HO_4.out) (by decide)) (Kd.N_typed HO_16.out) (by decide)) (Kd.N_typed HO_22.out) (by decide)) BK1203.out (by decide)).1 k_ hs_.symm).1.1.2) (fun hs_ => ((Kd.R_types (Kd.R_apart' (Kd.R_apart' (Kd.R_apart' (Kd.R_apart' (HO1210.out) (Kd.N_typed HO_3.out) (by decide)) (Kd.N_typed HO_4.out) (by decide)) (Kd.N_typed HO_16.out) (by decide)) (Kd.N_typed HO_22.out) (by decide)) BK1203.out (by decide)).1 k_ hs_.symm).1.1.2))) (fun hn_ => (Kd.fresh' (Kd.N_lt (by (with_reducible repeat (first | apply Kd.N_alloc | apply Kd.N_drewN | apply Kd.N_drew)); exact HO_16.out)) k_ hn_)), Or.elim hk_ (fun hs_ => Or.elim hs_ (fun hs_ => hs_.1.1.1.2.2.2) (fun hs_ => Or.elim hs_ (fun hs_ => ((Kd.R_types (Kd.R_apart' (Kd.R_apart' (Kd.R_apart' (Kd.R_apart' (HO1207.out) (Kd.N_typed HO_3.out) (by decide)) (Kd.N_typed HO_4.out) (by decide)) (Kd.N_typed HO_16.out) (by decide)) (Kd.N_typed HO_22.out) (by decide)) BK1203.out (by decide)).1 k_ hs_.symm).1.2) (fun hs_ => ((Kd.R_types (Kd.R_apart' (Kd.R_apart' (Kd.R_apart' (Kd.R_apart' (HO1210.out) (Kd.N_typed HO_3.out) (by decide)) (Kd.N_typed HO_4.out) (by decide)) (Kd.N_typed HO_16.out) (by decide)) (Kd.N_typed HO_22.out) (by decide)) BK1203.out (by decide)).1 k_ hs_.symm).1.2))) (fun hn_ => (Kd.fresh' (Kd.N_lt (by (with_reducible repeat (first | apply Kd.N_alloc | apply Kd.N_drewN | apply Kd.N_drew)); exact HO_22.out)) k_ hn_)), Or.elim hk_ (fun hs_ => Or.elim hs_ (fun hs_ => hs_.1.1.2) (fun hs_ => Or.elim hs_ (fun hs_ => ((Kd.R_types (Kd.R_apart' (Kd.R_apart' (Kd.R_apart' (Kd.R_apart' (HO1207.out) (Kd.N_typed HO_3.out) (by decide)) (Kd.N_typed HO_4.out) (by decide)) (Kd.N_typed HO_16.out) (by decide)) (Kd.N_typed HO_22.out) (by decide)) BK1203.out (by decide)).1 k_ hs_.symm).2) (fun hs_ => ((Kd.R_types (Kd.R_apart' (Kd.R_apart' (Kd.R_apart' (Kd.R_apart' (HO1210.out) (Kd.N_typed HO_3.out) (by decide)) (Kd.N_typed HO_4.out) (by decide)) (Kd.N_typed HO_16.out) (by decide)) (Kd.N_typed HO_22.out) (by decide)) BK1203.out (by decide)).1 k_ hs_.symm).2))) (fun hn_ => (Kd.freshB (kk_ BK1203) k_ hn_))⟩)) (below_size hB_)); replace HO_3 := Aside0.mk (Kd.N_elder' (by (with_reducible repeat (first | apply Kd.N_alloc | apply Kd.N_drewN | apply Kd.N_drew)); exact HO_3.out) (Kd.N_base ho0) hb); replace HO_4 := Aside0.mk (Kd.N_elder' (by (with_reducible repeat (first | apply Kd.N_alloc | apply Kd.N_drewN | apply Kd.N_drew)); exact HO_4.out) (Kd.N_base ho0) hb); replace HO_16 := Aside0.mk (Kd.N_elder' (by (with_reducible repeat (first | apply Kd.N_alloc | apply Kd.N_drewN | apply Kd.N_drew)); exact HO_16.out) (Kd.N_base ho0) hb); replace HO_22 := Aside0.mk (Kd.N_elder' (by (with_reducible repeat (first | apply Kd.N_alloc | apply Kd.N_drewN | apply Kd.N_drew)); exact HO_22.out) (Kd.N_base ho0) hb); replace HO1207 := rb_ HO1207 hb; replace HO1210 := rb_ HO1210 hb; replace HR1202_0 := Aside0.mk (Kd.C_below (by repeat (first | (with_reducible exact HR1202_0.out) | (with_reducible refine Kd.C_alloc ?_ _) | (with_reducible refine Kd.C_drewN ?_ _) | (with_reducible refine Kd.C_drew ?_) | exact HR1202_0.out)) hb); replace BK1203 := bb_ BK1203 hb; replace HB := b1_ hb; clear hb ho0))
                  go_roundg k2
                  case measure => have := HK1.out; have := HK2.out; omega
                  case rel => exact ⟨(t1211), (wrap64 (x24_2 + 1)), qc_, H', ⟨by have := HK1.out; have := HK2.out; omega⟩, ⟨by (with_reducible repeat (first | apply Kd.N_alloc | apply Kd.N_drewN | apply Kd.N_drew)); exact Kd.N_mono HO1213.out (fun _ hk => ⟨hk.1, ⟨hk.2.1, ⟨hk.2.2.1, hk.2.2.2.1⟩⟩⟩)⟩, ⟨by (with_reducible repeat (first | apply Kd.N_alloc | apply Kd.N_drewN | apply Kd.N_drew)); exact Kd.N_mono HO_4.out (fun _ hk => ⟨hk.1.1.1.1.1, hk.2⟩)⟩, ⟨by (with_reducible repeat (first | apply Kd.V_alloc | apply Kd.V_drewN | apply Kd.V_drew)); exact Kd.V_mono HO_6.out (fun _ hk => ⟨hk.1.1.1.1.1, ⟨hk.2, hk.1.1.1.1.2.2⟩⟩)⟩, ⟨by (with_reducible repeat (first | apply Kd.N_alloc | apply Kd.N_drewN | apply Kd.N_drew)); exact Kd.N_mono HO_16.out (fun _ hk => ⟨hk.1.1.1.1.1, hk.2⟩)⟩, ⟨by (with_reducible repeat (first | apply Kd.N_alloc | apply Kd.N_drewN | apply Kd.N_drew)); exact Kd.N_mono HO_22.out (fun _ hk => ⟨hk.1.1.1.1.1, hk.2⟩)⟩, ⟨hB_⟩⟩
                · replace c16 := Bool.eq_false_iff.mpr c16
                  subst c16
                  have H1 : (spec_SurfacesWith.l1 k2 x3_2 t1198 (rd_L5 t1198 x18_1) t1198 (t1198.length : Int) x18_1 t1198 (t1198.length : Int) (wrap64 (x24_2 + 1))) = some r := by rw [if_neg (show ¬ (false = true) by decide)] at H; exact H
                  clear H
                  have H := H1
                  clear H1
                  have H' := Aside0.mk H
                  clear H
                  have p1202 : 0 ≤ (x24_2 : Int) := of_decide_eq_true qe_
                  have q1202 : x24_2 < (t1198.length : Int) := of_decide_eq_true qe_
                  obtain ⟨ad1202, A1202_0, c1202_0, e1202, hx1202_0, hl1202_0, hi1202_0⟩ := at_L5 (Kd.N_reads' HO_22.out).2.2 x24_2 p1202 q1202
                  obtain rfl : ad1201 = ad1202 := (by injection e1202)
                  obtain ⟨ce1202, hce1202, hMe1202, hcc1202⟩ := Kd.N_get HO_22.out [] x24_2 p1202 (by first | exact q1202 | exact of_decide_eq_true qe_ | (have e_ := (Kd.N_reads' HO_22.out).1; omega))
                  obtain ⟨ua1202_0, uc1202_0, rfl, ul1202_0, ge1202_0⟩ := Kd.FK_slice_open hMe1202
                  have hv1202_0 := hcc1202 0 _ rfl
                  rw [Nat.add_zero, show ((Kd.slice 3 (Kd.int .i64))).sz = 1 from rfl, Nat.mul_one] at hv1202_0
                  replace hv1202_0 := Option.some.inj (hv1202_0.symm.trans hx1202_0)
                  injection hv1202_0 with hva_ hvn_ hvc_
                  rw [hva_] at ge1202_0
                  rw [hvc_] at ul1202_0
                  have HL1202_0 := Aside0.mk (show Kd.V (Kd.int .i64) 3 _ w.heap.size _ _ (rd_L5 t1198 x24_2) from Kd.V_mk ul1202_0 ge1202_0)
                  clear hva_ hvn_ hvc_ ge1202_0 ul1202_0
                  clear hcc1202 hce1202
                  have HR1202_0 := Aside0.mk hi1202_0
                  have HC1202_0 := Aside0.mk hl1202_0
                  clear hi1202_0 hl1202_0
                  replace p1202 := eq_true p1202
                  replace q1202 := eq_true q1202
                  go_wp2_with (first | ((with_reducible refine gate_dst (N := 9) rfl ?_); refine bx_ 9 #[.slice none 0 0, .slice none 0 0] 33 ?_; intro gb1203 hg w28 hbox hb; replace HO_3 := Aside0.mk (Kd.N_below (Kd.N_elderB (by (with_reducible repeat (first | apply Kd.N_alloc | apply Kd.N_drewN | apply Kd.N_drew)); exact HO_3.out) gb1203 (Nat.le_of_eq hg.symm)) hb); replace HO_4 := Aside0.mk (Kd.N_below (Kd.N_elderB (by (with_reducible repeat (first | apply Kd.N_alloc | apply Kd.N_drewN | apply Kd.N_drew)); exact HO_4.out) gb1203 (Nat.le_of_eq hg.symm)) hb); replace HO_6 := Aside0.mk (Kd.V_below (Kd.V_elderB (by (with_reducible repeat (first | apply Kd.V_alloc | apply Kd.V_drewN | apply Kd.V_drew)); exact HO_6.out) gb1203 (Nat.le_of_eq hg.symm)) hb); replace HO_16 := Aside0.mk (Kd.N_below (Kd.N_elderB (by (with_reducible repeat (first | apply Kd.N_alloc | apply Kd.N_drewN | apply Kd.N_drew)); exact HO_16.out) gb1203 (Nat.le_of_eq hg.symm)) hb); replace HO_22 := Aside0.mk (Kd.N_below (Kd.N_elderB (by (with_reducible repeat (first | apply Kd.N_alloc | apply Kd.N_drewN | apply Kd.N_drew)); exact HO_22.out) gb1203 (Nat.le_of_eq hg.symm)) hb); replace HL1202_0 := Aside0.mk (Kd.V_below (Kd.V_elderB (by (with_reducible repeat (first | apply Kd.V_alloc | apply Kd.V_drewN | apply Kd.V_drew)); exact HL1202_0.out) gb1203 (Nat.le_of_eq hg.symm)) hb); replace HR1202_0 := Aside0.mk (Kd.C_below (by repeat (first | (with_reducible exact HR1202_0.out) | (with_reducible refine Kd.C_alloc ?_ _) | (with_reducible refine Kd.C_drewN ?_ _) | (with_reducible refine Kd.C_drew ?_) | exact HR1202_0.out)) hb); have BK1203 := Aside0.mk hbox; have GW1203 := gw_ w hg; have GE1203 := GW1203; replace HB := b1_ hb; clear hb hbox hg; obtain ⟨hcz29_0, hcz29_1, hfz29_0, hfz29_1⟩ := c2_ BK1203) | ((with_reducible refine gate_callee (f := 85) rfl ?_); refine gL_ (some 32) Try.func85 #[.agg #[.slice A1201_0 (rd_L5 t1198 x18_1).length c1201_0, .slice A1202_0 (rd_L5 t1198 x24_2).length c1202_0]] rfl qa_ ?_; (with_reducible refine (spec_SurfaceOk.calls k2 _ _ (rd_L5 t1198 x18_1) _ _ (rd_L5 t1198 x24_2) false _ ?side1 ?side2 ?side3 ?side4 A15.out).mono ?_); (case side1 => refine (Kd.V_reads' (e := 3) (base := w.heap.size) (ok := fun k_ => (((w.heap.size ≤ k_) ∧ (some k_ ≠ (u3 : Value).ownBlock ∧ some k_ ≠ (.slice (some ad1201) t1198.length co8 : Value).ownBlock)) ∧ k_ ≠ gb1203)) (n := (rd_L5 t1198 x18_1).length) (c := c1201_0) ?_).2.2; exact (by (with_reducible repeat (first | apply Kd.V_alloc | apply Kd.V_drewN | apply Kd.V_drew)); exact (Kd.V_mono (Kd.V_far (p := ⟨gb1203, 1, none⟩) (Kd.V_far (p := ⟨gb1203, 0, none⟩) (Kd.V_mono HO_6.out (fun k_ hk => (⟨hk, hk.2⟩ : _ ∧ k_ ≠ gb1203))) (fun _ hk => hk.2) (.slice A1201_0 (rd_L5 t1198 x18_1).length c1201_0)) (fun _ hk => hk.2) (.slice A1202_0 (rd_L5 t1198 x24_2).length c1202_0)) (fun _ h_ => h_.1)))); (case side2 => exact (Kd.V_reads' HO_6.out).2.1); (case side3 => repeat (first | exact ((Kd.V_reads' (by (with_reducible repeat (first | apply Kd.V_alloc | apply Kd.V_drewN | apply Kd.V_drew)); exact (Kd.V_mono (Kd.V_far (p := ⟨gb1203, 1, none⟩) (Kd.V_far (p := ⟨gb1203, 0, none⟩) (Kd.V_mono HL1202_0.out (fun k_ hk => (⟨hk, hk.2⟩ : _ ∧ k_ ≠ gb1203))) (fun _ hk => hk.2) (.slice A1201_0 (rd_L5 t1198 x18_1).length c1201_0)) (fun _ hk => hk.2) (.slice A1202_0 (rd_L5 t1198 x24_2).length c1202_0)) (fun _ h_ => h_.1)))).2.2) | (with_reducible refine Kd.C_alloc ?_ _) | (with_reducible refine Kd.C_drewN ?_ _) | (with_reducible refine Kd.C_drew ?_))); (case side4 => exact HC1202_0.out); rintro e w30 ⟨rfl, hb⟩; refine ⟨_, rfl, ?_⟩; replace HO_3 := Aside0.mk (Kd.N_below (by (with_reducible repeat (first | apply Kd.N_alloc | apply Kd.N_drewN | apply Kd.N_drew)); exact (Kd.N_mono (Kd.N_far (p := ⟨gb1203, 1, none⟩) (Kd.N_far (p := ⟨gb1203, 0, none⟩) (Kd.N_mono HO_3.out (fun k_ hk => (⟨hk, hk.2⟩ : _ ∧ k_ ≠ gb1203))) (fun _ hk => hk.2) (.slice A1201_0 (rd_L5 t1198 x18_1).length c1201_0)) (fun _ hk => hk.2) (.slice A1202_0 (rd_L5 t1198 x24_2).length c1202_0)) (fun _ h_ => h_.1))) hb); replace HO_4 := Aside0.mk (Kd.N_below (by (with_reducible repeat (first | apply Kd.N_alloc | apply Kd.N_drewN | apply Kd.N_drew)); exact (Kd.N_mono (Kd.N_far (p := ⟨gb1203, 1, none⟩) (Kd.N_far (p := ⟨gb1203, 0, none⟩) (Kd.N_mono HO_4.out (fun k_ hk => (⟨hk, hk.2⟩ : _ ∧ k_ ≠ gb1203))) (fun _ hk => hk.2) (.slice A1201_0 (rd_L5 t1198 x18_1).length c1201_0)) (fun _ hk => hk.2) (.slice A1202_0 (rd_L5 t1198 x24_2).length c1202_0)) (fun _ h_ => h_.1))) hb); replace HO_6 := Aside0.mk (Kd.V_below (by (with_reducible repeat (first | apply Kd.V_alloc | apply Kd.V_drewN | apply Kd.V_drew)); exact (Kd.V_mono (Kd.V_far (p := ⟨gb1203, 1, none⟩) (Kd.V_far (p := ⟨gb1203, 0, none⟩) (Kd.V_mono HO_6.out (fun k_ hk => (⟨hk, hk.2⟩ : _ ∧ k_ ≠ gb1203))) (fun _ hk => hk.2) (.slice A1201_0 (rd_L5 t1198 x18_1).length c1201_0)) (fun _ hk => hk.2) (.slice A1202_0 (rd_L5 t1198 x24_2).length c1202_0)) (fun _ h_ => h_.1))) hb); replace HO_16 := Aside0.mk (Kd.N_below (by (with_reducible repeat (first | apply Kd.N_alloc | apply Kd.N_drewN | apply Kd.N_drew)); exact (Kd.N_mono (Kd.N_far (p := ⟨gb1203, 1, none⟩) (Kd.N_far (p := ⟨gb1203, 0, none⟩) (Kd.N_mono HO_16.out (fun k_ hk => (⟨hk, hk.2⟩ : _ ∧ k_ ≠ gb1203))) (fun _ hk => hk.2) (.slice A1201_0 (rd_L5 t1198 x18_1).length c1201_0)) (fun _ hk => hk.2) (.slice A1202_0 (rd_L5 t1198 x24_2).length c1202_0)) (fun _ h_ => h_.1))) hb); replace HO_22 := Aside0.mk (Kd.N_below (by (with_reducible repeat (first | apply Kd.N_alloc | apply Kd.N_drewN | apply Kd.N_drew)); exact (Kd.N_mono (Kd.N_far (p := ⟨gb1203, 1, none⟩) (Kd.N_far (p := ⟨gb1203, 0, none⟩) (Kd.N_mono HO_22.out (fun k_ hk => (⟨hk, hk.2⟩ : _ ∧ k_ ≠ gb1203))) (fun _ hk => hk.2) (.slice A1201_0 (rd_L5 t1198 x18_1).length c1201_0)) (fun _ hk => hk.2) (.slice A1202_0 (rd_L5 t1198 x24_2).length c1202_0)) (fun _ h_ => h_.1))) hb); replace HR1202_0 := Aside0.mk (Kd.C_below ((Kd.V_reads' (by (with_reducible repeat (first | apply Kd.V_alloc | apply Kd.V_drewN | apply Kd.V_drew)); exact (Kd.V_mono (Kd.V_far (p := ⟨gb1203, 1, none⟩) (Kd.V_far (p := ⟨gb1203, 0, none⟩) (Kd.V_mono HL1202_0.out (fun k_ hk => (⟨hk, hk.2⟩ : _ ∧ k_ ≠ gb1203))) (fun _ hk => hk.2) (.slice A1201_0 (rd_L5 t1198 x18_1).length c1201_0)) (fun _ hk => hk.2) (.slice A1202_0 (rd_L5 t1198 x24_2).length c1202_0)) (fun _ h_ => h_.1)))).2.2) hb); replace HL1202_0 := Aside0.mk (Kd.V_below (by (with_reducible repeat (first | apply Kd.V_alloc | apply Kd.V_drewN | apply Kd.V_drew)); exact (Kd.V_mono (Kd.V_far (p := ⟨gb1203, 1, none⟩) (Kd.V_far (p := ⟨gb1203, 0, none⟩) (Kd.V_mono HL1202_0.out (fun k_ hk => (⟨hk, hk.2⟩ : _ ∧ k_ ≠ gb1203))) (fun _ hk => hk.2) (.slice A1201_0 (rd_L5 t1198 x18_1).length c1201_0)) (fun _ hk => hk.2) (.slice A1202_0 (rd_L5 t1198 x24_2).length c1202_0)) (fun _ h_ => h_.1))) hb); replace BK1203 := Aside0.mk (blk_below (g := gb1203) (o := .cells #[.slice A1201_0 (rd_L5 t1198 x18_1).length c1201_0, .slice A1202_0 (rd_L5 t1198 x24_2).length c1202_0] 33 (0, 0)) qp_ hb); replace HB := b1_ hb; clear hb))
                  go_roundg k2
                  case measure => have := HK1.out; have := HK2.out; omega
                  case rel => exact ⟨(x3_2), (wrap64 (x24_2 + 1)), qc_, H', ⟨by have := HK1.out; have := HK2.out; omega⟩, ⟨by (with_reducible repeat (first | apply Kd.N_alloc | apply Kd.N_drewN | apply Kd.N_drew)); exact Kd.N_mono HO_3.out (fun _ hk => ⟨hk.1.1, ⟨hk.1.2.1, ⟨hk.1.2.2.1, hk.1.2.2.2⟩⟩⟩)⟩, ⟨by (with_reducible repeat (first | apply Kd.N_alloc | apply Kd.N_drewN | apply Kd.N_drew)); exact Kd.N_mono HO_4.out (fun _ hk => ⟨hk.1.1, hk.1.2⟩)⟩, ⟨by (with_reducible repeat (first | apply Kd.V_alloc | apply Kd.V_drewN | apply Kd.V_drew)); exact Kd.V_mono HO_6.out (fun _ hk => ⟨hk.1.1, ⟨hk.1.2.1, hk.1.2.2⟩⟩)⟩, ⟨by (with_reducible repeat (first | apply Kd.N_alloc | apply Kd.N_drewN | apply Kd.N_drew)); exact Kd.N_mono HO_16.out (fun _ hk => ⟨hk.1.1, hk.1.2⟩)⟩, ⟨by (with_reducible repeat (first | apply Kd.N_alloc | apply Kd.N_drewN | apply Kd.N_drew)); exact Kd.N_mono HO_22.out (fun _ hk => ⟨hk.1.1, hk.1.2⟩)⟩, ⟨hB_⟩⟩
              · rw [if_neg c12] at H
                have c12b0 := decide_eq_false c12
                clear c12
                have H' := Aside0.mk H
                clear H
                go_wp2
                go_roundg k2
                case measure => have := HK1.out; have := HK2.out; omega
                case rel => exact ⟨(x3_2), (wrap64 (x18_1 + 1)), qc_, H', ⟨by have := HK1.out; have := HK2.out; omega⟩, ⟨by (with_reducible repeat (first | apply Kd.N_alloc | apply Kd.N_drewN | apply Kd.N_drew)); exact Kd.N_mono HO_3.out (fun _ hk => ⟨hk.1, ⟨hk.2.1, hk.2.2.1⟩⟩)⟩, ⟨by (with_reducible repeat (first | apply Kd.N_alloc | apply Kd.N_drewN | apply Kd.N_drew)); exact HO_4.out⟩, ⟨by (with_reducible repeat (first | apply Kd.N_alloc | apply Kd.N_drewN | apply Kd.N_drew)); exact HO_16.out⟩, ⟨hB_⟩⟩
        · rw [if_neg c9] at H
          have c9b0 := decide_eq_false c9
          clear c9
          obtain rfl := Option.some.inj H
          go_wp2
          go_ret
          exact ⟨_, qb_, by (with_reducible repeat (first | apply Kd.N_alloc | apply Kd.N_drewN | apply Kd.N_drew)); exact Kd.N_mono HO_3.out (fun _ hk => hk.1), hB_⟩
  · replace c3 := Bool.eq_false_iff.mpr c3
    subst c3
    have H1 : (some ([] : List (S33))) = some r := by rw [if_neg (show ¬ (false = true) by decide)] at H; exact H
    clear H
    have H := H1
    clear H1
    obtain rfl := Option.some.inj H
    go_enter Try.func37, Try.ntmps37
    go_wp2_with (first | ((with_reducible refine gate_callee (f := 83) rfl ?_); refine gL_ (some 11) Try.func83 #[.int .i64 a0, .int .i64 1, .int .i64 4] rfl qa_ ?_; (with_reducible refine (spec_l01In.calls a0 1 4 false _ A2.out).mono ?_); rintro e w' ⟨rfl, ⟨nd, rfl⟩⟩; refine ⟨_, rfl, ?_⟩))
    go_ret
    exact ⟨_, qb_, by first | exact Kd.S_nil _ _ _ _ _ | exact Kd.N_nil _ _ _ _ _ | exact Kd.V_nil _ _ _ _ _ | exact Kd.Q_nil _ _ _ _ _ | exact Kd.R_nil _ _ _ _ _, hB_⟩
end Go.Proofs.Ytoijcallajegfaa.A
end
section
namespace Go.Proofs.Ytoijcallajegfaa.A
open Go.RowKit Go.Proofs.YtoijcallajegfaaW.PrintWords Go.Proofs.YtoijcallajegfaaW.PrintLast Go.Proofs.YtoijcallajegfaaW.PrintMore
attribute [local go_sem] max2_int min2_int max_two min_two max_three min_three max_four min_four
set_option linter.unusedVariables false
set_option linter.unusedSimpArgs false
def laws_eqSurfaceS.l0 : Nat → List (S33) → List (S33) → Int → Option (Bool)
  | 0, _, _, _ => none
  | k + 1, x0, x1, x5 => if x5 < (x0.length : Int) then (if 0 ≤ x5 then (if x5 < (x1.length : Int) then ((laws_eqSurface.f k ((rd_T33 x0 x5).f0) ((rd_T33 x0 x5).f1) ((rd_T33 x1 x5).f0) ((rd_T33 x1 x5).f1)).bind fun t1216 => (if t1216 = true then (laws_eqSurfaceS.l0 k x0 x1 (wrap64 (x5 + 1))) else (some false))) else (none)) else (none)) else (some true)
def laws_eqSurfaceS.f (k : Nat) (l0 : List (S33)) (l1 : List (S33)) : Option (Bool) := if (l0.length : Int) = (l1.length : Int) then (laws_eqSurfaceS.l0 k l0 l1 0) else (some false)
theorem laws_eqSurfaceS.mono_l : ∀ k, (∀ y0 y1 y2, LeO (laws_eqSurfaceS.l0 k y0 y1 y2) (laws_eqSurfaceS.l0 (k + 1) y0 y1 y2))
  | 0 => fun _ _ _ r h => by simp [laws_eqSurfaceS.l0] at h
  | k + 1 => by
    have ih0 := laws_eqSurfaceS.mono_l k
    · intro y0 y1 y2
      unfold laws_eqSurfaceS.l0
      repeat' first|exact ih0 _ _ _|exact laws_eqSurface.mono _ _ _ _ _|exact lo_|refine LeO.ite ?_ ?_|refine LeO.bind ?_ (fun _ => ?_)
theorem laws_eqSurfaceS.mono : ∀ a0 a1 k, LeO (laws_eqSurfaceS.f k a0 a1) (laws_eqSurfaceS.f (k + 1) a0 a1) := by
  intro a0 a1 k
  have ih0 := laws_eqSurfaceS.mono_l k
  unfold laws_eqSurfaceS.f
  repeat' first|exact ih0 _ _ _|exact laws_eqSurface.mono _ _ _ _ _|exact lo_|refine LeO.ite ?_ ?_|refine LeO.bind ?_ (fun _ => ?_)
def laws_eqSurfaceS.T6 : Bool × List (List Nat × List Nat) := (true, [([], []), ([], []), ([0, 1], [0, 1]), ([2], [2]), ([], []), ([], []), ([4, 5], [4, 5]), ([6], [6]), ([3, 7], [3, 7]), ([8], [8])])
def laws_eqSurfaceS.B6 : List Nat := [0, 0, 3, 7, 0, 0, 48, 112, 255, 511]
theorem laws_eqSurfaceS.tab6 : rtab .any (opsOf Try.f38 6) = laws_eqSurfaceS.T6 := by kernel_rfl
theorem laws_eqSurfaceS.bits6 : waitsOk laws_eqSurfaceS.T6.2 laws_eqSurfaceS.B6 = true := by kernel_rfl
set_option maxHeartbeats 8000000 in
set_option maxRecDepth 100000 in
theorem laws_eqSurfaceS.calls (k : Nat) (A0 : Option Addr) (c0 : Nat) (l0 : List (S33)) (A1 : Option Addr) (c1 : Nat) (l1 : List (S33)) (r : Bool) (w : World) (hr0 : Kd.C k33 w A0 l0.length l0) (hc0 : l0.length ≤ c0) (hr1 : Kd.C k33 w A1 l1.length l1) (hc1 : l1.length ≤ c1) (h : laws_eqSurfaceS.f k l0 l1 = some r) :
    Calls Try.prog 38 #[.slice A0 l0.length c0, .slice A1 l1.length c1] w fun e w' => e = .returned (.bool r) ∧ Below w.heap.size w w' := by
  have hu33 := Try.underlying33
  have HR0 := Aside0.mk hr0
  have HC0 := Aside0.mk hc0
  clear hr0 hc0
  have HR1 := Aside0.mk hr1
  have HC1 := Aside0.mk hc1
  clear hr1 hc1
  have HB := Aside0.mk (Below.refl w.heap.size w)
  have H := h
  unfold laws_eqSurfaceS.f at H
  clear h
  by_cases c3 : (l0.length : Int) = (l1.length : Int)
  · rw [if_pos c3] at H
    have c3b0 : ((l0.length : Int) == (l1.length : Int)) = true := beq_iff_eq.mpr c3
    have c3b1 : ((l0.length : Int) != (l1.length : Int)) = false := bne_eq_false_iff_eq.mpr c3
    have c3b2 : (l0.length == l1.length) = true := by first | simpa using c3 | (simp at c3 ⊢; omega)
    clear c3
    have H' := Aside0.mk H
    clear H
    go_enter Try.func38, Try.ntmps38
    go_wp2
    go_loopg [5] k (fun kq v5 w' => ∃ (x5_1 : Int), v5 = .int .i64 x5_1 ∧ Aside0 (laws_eqSurfaceS.l0 kq l0 l1 x5_1 = some r) ∧ Aside0 (kq ≤ k) ∧ Aside0 (Below w.heap.size w w'))
    case atStart => exact ⟨(0), qc_, H', ⟨Nat.le_refl _⟩, ⟨hB_⟩⟩
    case round =>
      clear H'
      obtain ⟨x5_1, rfl, HA, HK1, HB⟩ := hrel
      cases gk with
      | zero => exact absurd HA.out (by simp [laws_eqSurfaceS.l0])
      | succ k1 =>
        have H := HA.out
        clear HA
        simp only [laws_eqSurfaceS.l0] at H
        by_cases c4 : x5_1 < (l0.length : Int)
        · rw [if_pos c4] at H
          have c4b0 := decide_eq_true c4
          clear c4
          have c5 := cp_ H
          replace H := ca_ H
          have c5b0 := decide_eq_true c5
          clear c5
          have c6 := cp_ H
          replace H := ca_ H
          have c6b0 := decide_eq_true c6
          clear c6
          obtain ⟨t1216, A7, H⟩ := bi_ H
          by_cases c8 : t1216 = true
          · subst c8
            rw [if_pos rfl] at H
            have H' := Aside0.mk H
            clear H
            try go_wp2
            replace HB := Aside0.mk (below_drew1 HB.out)
            have p1214 : 0 ≤ (x5_1 : Int) := of_decide_eq_true qe_
            have q1214 : x5_1 < (l0.length : Int) := of_decide_eq_true qe_
            obtain ⟨ad1214, A1214_0, c1214_0, A1214_1, c1214_1, e1214, hx1214_0, hx1214_1, hl1214_0, hi1214_0, hl1214_1, hi1214_1⟩ := at_T33 HR0.out x5_1 p1214 q1214
            have hw1214_1 := hx1214_1
            have hw1214_0 := hx1214_0
            cases e1214
            replace hx1214_0 := (HB.out.cell (World.block_lt_of_cell? w _ hx1214_0)).trans hx1214_0
            replace hx1214_1 := (HB.out.cell (World.block_lt_of_cell? w _ hx1214_1)).trans hx1214_1
            have HR1214_0 := Aside0.mk hi1214_0
            have HC1214_0 := Aside0.mk hl1214_0
            clear hi1214_0 hl1214_0
            have HR1214_1 := Aside0.mk hi1214_1
            have HC1214_1 := Aside0.mk hl1214_1
            clear hi1214_1 hl1214_1
            replace p1214 := eq_true p1214
            replace q1214 := eq_true q1214
            have p1215 : 0 ≤ (x5_1 : Int) := of_decide_eq_true qe_
            have q1215 : x5_1 < (l1.length : Int) := of_decide_eq_true qe_
            obtain ⟨ad1215, A1215_0, c1215_0, A1215_1, c1215_1, e1215, hx1215_0, hx1215_1, hl1215_0, hi1215_0, hl1215_1, hi1215_1⟩ := at_T33 HR1.out x5_1 p1215 q1215
            have hw1215_1 := hx1215_1
            have hw1215_0 := hx1215_0
            cases e1215
            replace hx1215_0 := (HB.out.cell (World.block_lt_of_cell? w _ hx1215_0)).trans hx1215_0
            replace hx1215_1 := (HB.out.cell (World.block_lt_of_cell? w _ hx1215_1)).trans hx1215_1
            have HR1215_0 := Aside0.mk hi1215_0
            have HC1215_0 := Aside0.mk hl1215_0
            clear hi1215_0 hl1215_0
            have HR1215_1 := Aside0.mk hi1215_1
            have HC1215_1 := Aside0.mk hl1215_1
            clear hi1215_1 hl1215_1
            replace p1215 := eq_true p1215
            replace q1215 := eq_true q1215
            refine start_ (n := 10) (S := fun w' => w'.cell? (ad1214.add ((x5_1).toNat * 2)) = some (.slice A1214_0 ((rd_T33 l0 x5_1).f0).length c1214_0) ∧ w'.cell? ⟨(ad1214.add ((x5_1).toNat * 2)).block, (ad1214.add ((x5_1).toNat * 2)).off + 1, none⟩ = some (.slice A1214_1 ((rd_T33 l0 x5_1).f1).length c1214_1) ∧ w'.cell? (ad1215.add ((x5_1).toNat * 2)) = some (.slice A1215_0 ((rd_T33 l1 x5_1).f0).length c1215_0) ∧ w'.cell? ⟨(ad1215.add ((x5_1).toNat * 2)).block, (ad1215.add ((x5_1).toNat * 2)).off + 1, none⟩ = some (.slice A1215_1 ((rd_T33 l1 x5_1).f1).length c1215_1)) (ds := []) (bl_ 10 0) (by kernel_rfl) rfl (by kernel_rfl) ⟨((HB.out.cell (World.block_lt_of_cell? w _ hw1214_0)).trans hw1214_0), ((HB.out.cell (World.block_lt_of_cell? w _ hw1214_1)).trans hw1214_1), ((HB.out.cell (World.block_lt_of_cell? w _ hw1215_0)).trans hw1215_0), ((HB.out.cell (World.block_lt_of_cell? w _ hw1215_1)).trans hw1215_1)⟩ (fun hHeld => ?_); refine with_tabW laws_eqSurfaceS.tab6 laws_eqSurfaceS.bits6 (fun HT_ HW_ => ?_)
            generalize wr.drew = w9 at HB HR1214_0 HR1214_1 HR1215_0 HR1215_1 hx1214_0 hx1214_1 hx1215_0 hx1215_1 hHeld ⊢
            refine pu_ 0 (some 17) (bl_ 10 1) HT_ ?_
            refine pu_ 1 (some 18) (bl_ 10 3) HT_ ?_
            refine pu_ 2 (some 19) (bl_ 10 7) HT_ ?_
            refine pu_ 4 (some 21) (bl_ 10 23) HT_ ?_
            refine pu_ 5 (some 22) (bl_ 10 55) HT_ ?_
            refine pu_ 6 (some 23) (bl_ 10 119) HT_ ?_
            refine ta_ 3 (some 20) (bl_ 10 127) HT_ HW_ hHeld ?_
            refine ta_ 7 (some 24) (bl_ 10 255) HT_ HW_ hHeld ?_
            refine on_ 8 (some 25) (bl_ 10 511) HT_ (fun K hK => ?_)
            refine gO_ Try.func35 #[.agg #[.slice A1214_0 ((rd_T33 l0 x5_1).f0).length c1214_0, .slice A1214_1 ((rd_T33 l0 x5_1).f1).length c1214_1], .agg #[.slice A1215_0 ((rd_T33 l1 x5_1).f0).length c1215_0, .slice A1215_1 ((rd_T33 l1 x5_1).f1).length c1215_1]] (by rfl) rfl rfl qa_ ?_
            with_reducible refine (laws_eqSurface.calls k1 _ _ ((rd_T33 l0 x5_1).f0) _ _ ((rd_T33 l0 x5_1).f1) _ _ ((rd_T33 l1 x5_1).f0) _ _ ((rd_T33 l1 x5_1).f1) true _ (cb_ HR1214_0) HC1214_0.out (cb_ HR1214_1) HC1214_1.out (cb_ HR1215_0) HC1215_0.out (cb_ HR1215_1) HC1215_1.out A7.out).mono ?_
            rintro e w10 ⟨rfl, hb⟩
            refine ⟨_, rfl, ?_⟩
            replace HB := b1_ hb
            clear hb
            refine hK.out _ _ ⟨((HB.out.cell (World.block_lt_of_cell? w _ hw1214_0)).trans hw1214_0), ((HB.out.cell (World.block_lt_of_cell? w _ hw1214_1)).trans hw1214_1), ((HB.out.cell (World.block_lt_of_cell? w _ hw1215_0)).trans hw1215_0), ((HB.out.cell (World.block_lt_of_cell? w _ hw1215_1)).trans hw1215_1)⟩ (fun hHeld => ?_)
            clear hK K
            refine no_ (some 25) ?_
            refine pu_ 9 (some 26) (bl_ 10 1023) HT_ ?_
            refine done_ (done_of HT_.out (by kernel_rfl)) ?_
            try go_wp2
            go_roundg k1
            case measure => have := HK1.out; omega
            case rel => exact ⟨(wrap64 (x5_1 + 1)), qc_, H', ⟨by have := HK1.out; omega⟩, ⟨hB_⟩⟩
          · replace c8 := Bool.eq_false_iff.mpr c8
            subst c8
            have H1 : (some false) = some r := by rw [if_neg (show ¬ (false = true) by decide)] at H; exact H
            clear H
            have H := H1
            clear H1
            obtain rfl := Option.some.inj H
            try go_wp2
            replace HB := Aside0.mk (below_drew1 HB.out)
            have p1214 : 0 ≤ (x5_1 : Int) := of_decide_eq_true qe_
            have q1214 : x5_1 < (l0.length : Int) := of_decide_eq_true qe_
            obtain ⟨ad1214, A1214_0, c1214_0, A1214_1, c1214_1, e1214, hx1214_0, hx1214_1, hl1214_0, hi1214_0, hl1214_1, hi1214_1⟩ := at_T33 HR0.out x5_1 p1214 q1214
            have hw1214_1 := hx1214_1
            have hw1214_0 := hx1214_0
            cases e1214
            replace hx1214_0 := (HB.out.cell (World.block_lt_of_cell? w _ hx1214_0)).trans hx1214_0
            replace hx1214_1 := (HB.out.cell (World.block_lt_of_cell? w _ hx1214_1)).trans hx1214_1
            have HR1214_0 := Aside0.mk hi1214_0
            have HC1214_0 := Aside0.mk hl1214_0
            clear hi1214_0 hl1214_0
            have HR1214_1 := Aside0.mk hi1214_1
            have HC1214_1 := Aside0.mk hl1214_1
            clear hi1214_1 hl1214_1
            replace p1214 := eq_true p1214
            replace q1214 := eq_true q1214
            have p1215 : 0 ≤ (x5_1 : Int) := of_decide_eq_true qe_
            have q1215 : x5_1 < (l1.length : Int) := of_decide_eq_true qe_
            obtain ⟨ad1215, A1215_0, c1215_0, A1215_1, c1215_1, e1215, hx1215_0, hx1215_1, hl1215_0, hi1215_0, hl1215_1, hi1215_1⟩ := at_T33 HR1.out x5_1 p1215 q1215
            have hw1215_1 := hx1215_1
            have hw1215_0 := hx1215_0
            cases e1215
            replace hx1215_0 := (HB.out.cell (World.block_lt_of_cell? w _ hx1215_0)).trans hx1215_0
            replace hx1215_1 := (HB.out.cell (World.block_lt_of_cell? w _ hx1215_1)).trans hx1215_1
            have HR1215_0 := Aside0.mk hi1215_0
            have HC1215_0 := Aside0.mk hl1215_0
            clear hi1215_0 hl1215_0
            have HR1215_1 := Aside0.mk hi1215_1
            have HC1215_1 := Aside0.mk hl1215_1
            clear hi1215_1 hl1215_1
            replace p1215 := eq_true p1215
            replace q1215 := eq_true q1215
            refine start_ (n := 10) (S := fun w' => w'.cell? (ad1214.add ((x5_1).toNat * 2)) = some (.slice A1214_0 ((rd_T33 l0 x5_1).f0).length c1214_0) ∧ w'.cell? ⟨(ad1214.add ((x5_1).toNat * 2)).block, (ad1214.add ((x5_1).toNat * 2)).off + 1, none⟩ = some (.slice A1214_1 ((rd_T33 l0 x5_1).f1).length c1214_1) ∧ w'.cell? (ad1215.add ((x5_1).toNat * 2)) = some (.slice A1215_0 ((rd_T33 l1 x5_1).f0).length c1215_0) ∧ w'.cell? ⟨(ad1215.add ((x5_1).toNat * 2)).block, (ad1215.add ((x5_1).toNat * 2)).off + 1, none⟩ = some (.slice A1215_1 ((rd_T33 l1 x5_1).f1).length c1215_1)) (ds := []) (bl_ 10 0) (by kernel_rfl) rfl (by kernel_rfl) ⟨((HB.out.cell (World.block_lt_of_cell? w _ hw1214_0)).trans hw1214_0), ((HB.out.cell (World.block_lt_of_cell? w _ hw1214_1)).trans hw1214_1), ((HB.out.cell (World.block_lt_of_cell? w _ hw1215_0)).trans hw1215_0), ((HB.out.cell (World.block_lt_of_cell? w _ hw1215_1)).trans hw1215_1)⟩ (fun hHeld => ?_); refine with_tabW laws_eqSurfaceS.tab6 laws_eqSurfaceS.bits6 (fun HT_ HW_ => ?_)
            generalize wr.drew = w11 at HB HR1214_0 HR1214_1 HR1215_0 HR1215_1 hx1214_0 hx1214_1 hx1215_0 hx1215_1 hHeld ⊢
            refine pu_ 0 (some 17) (bl_ 10 1) HT_ ?_
            refine pu_ 1 (some 18) (bl_ 10 3) HT_ ?_
            refine pu_ 2 (some 19) (bl_ 10 7) HT_ ?_
            refine pu_ 4 (some 21) (bl_ 10 23) HT_ ?_
            refine pu_ 5 (some 22) (bl_ 10 55) HT_ ?_
            refine pu_ 6 (some 23) (bl_ 10 119) HT_ ?_
            refine ta_ 3 (some 20) (bl_ 10 127) HT_ HW_ hHeld ?_
            refine ta_ 7 (some 24) (bl_ 10 255) HT_ HW_ hHeld ?_
            refine on_ 8 (some 25) (bl_ 10 511) HT_ (fun K hK => ?_)
            refine gO_ Try.func35 #[.agg #[.slice A1214_0 ((rd_T33 l0 x5_1).f0).length c1214_0, .slice A1214_1 ((rd_T33 l0 x5_1).f1).length c1214_1], .agg #[.slice A1215_0 ((rd_T33 l1 x5_1).f0).length c1215_0, .slice A1215_1 ((rd_T33 l1 x5_1).f1).length c1215_1]] (by rfl) rfl rfl qa_ ?_
            with_reducible refine (laws_eqSurface.calls k1 _ _ ((rd_T33 l0 x5_1).f0) _ _ ((rd_T33 l0 x5_1).f1) _ _ ((rd_T33 l1 x5_1).f0) _ _ ((rd_T33 l1 x5_1).f1) false _ (cb_ HR1214_0) HC1214_0.out (cb_ HR1214_1) HC1214_1.out (cb_ HR1215_0) HC1215_0.out (cb_ HR1215_1) HC1215_1.out A7.out).mono ?_
            rintro e w12 ⟨rfl, hb⟩
            refine ⟨_, rfl, ?_⟩
            replace HB := b1_ hb
            clear hb
            refine hK.out _ _ ⟨((HB.out.cell (World.block_lt_of_cell? w _ hw1214_0)).trans hw1214_0), ((HB.out.cell (World.block_lt_of_cell? w _ hw1214_1)).trans hw1214_1), ((HB.out.cell (World.block_lt_of_cell? w _ hw1215_0)).trans hw1215_0), ((HB.out.cell (World.block_lt_of_cell? w _ hw1215_1)).trans hw1215_1)⟩ (fun hHeld => ?_)
            clear hK K
            refine no_ (some 25) ?_
            refine pu_ 9 (some 26) (bl_ 10 1023) HT_ ?_
            refine done_ (done_of HT_.out (by kernel_rfl)) ?_
            try go_wp2
            go_ret
            exact ⟨qb_, hB_⟩
        · rw [if_neg c4] at H
          have c4b0 := decide_eq_false c4
          clear c4
          obtain rfl := Option.some.inj H
          go_wp2
          go_ret
          exact ⟨qb_, hB_⟩
  · rw [if_neg c3] at H
    have c3b0 : ((l0.length : Int) == (l1.length : Int)) = false := beq_eq_false_iff_ne.mpr c3
    have c3b1 : ((l0.length : Int) != (l1.length : Int)) = true := bne_iff_ne.mpr c3
    have c3b2 : (l0.length == l1.length) = false := by first | simpa using c3 | (simp at c3 ⊢; omega)
    obtain rfl := Option.some.inj H
    go_enter Try.func38, Try.ntmps38
    go_wp2
    go_ret
    exact ⟨qb_, hB_⟩
end Go.Proofs.Ytoijcallajegfaa.A
end
section
namespace Go.Proofs.Ytoijcallajegfaa.A
open Go.RowKit Go.Proofs.YtoijcallajegfaaW.PrintWords Go.Proofs.YtoijcallajegfaaW.PrintLast Go.Proofs.YtoijcallajegfaaW.PrintMore
attribute [local go_sem] max2_int min2_int max_two min_two max_three min_three max_four min_four
set_option linter.unusedVariables false
set_option linter.unusedSimpArgs false
def laws_markIntS.l0 : Nat → List Int → Int → Int → Option (Int × List Int)
  | 0, _, _, _ => none
  | k + 1, x0, x1, x5 => if x5 < (x0.length : Int) then (if 0 ≤ x5 then (laws_markIntS.l0 k (x0.set (x5 : Int).toNat x1) (wrap64 (x1 + 1)) (wrap64 (x5 + 1))) else (none)) else (some (x1, x0))
def laws_markIntS.f (k : Nat) (l0 : List Int) (a1 : Int) : Option (Int × List Int) := laws_markIntS.l0 k l0 a1 0
theorem laws_markIntS.mono_l : ∀ k, (∀ y0 y1 y2, LeO (laws_markIntS.l0 k y0 y1 y2) (laws_markIntS.l0 (k + 1) y0 y1 y2))
  | 0 => fun _ _ _ r h => by simp [laws_markIntS.l0] at h
  | k + 1 => by
    have ih0 := laws_markIntS.mono_l k
    · intro y0 y1 y2
      unfold laws_markIntS.l0
      repeat' first|exact ih0 _ _ _|exact lo_|refine LeO.ite ?_ ?_|refine LeO.bind ?_ (fun _ => ?_)
theorem laws_markIntS.mono : ∀ a0 a1 k, LeO (laws_markIntS.f k a0 a1) (laws_markIntS.f (k + 1) a0 a1) := by
  intro a0 a1 k
  have ih0 := laws_markIntS.mono_l k
  unfold laws_markIntS.f
  repeat' first|exact ih0 _ _ _|exact lo_|refine LeO.ite ?_ ?_|refine LeO.bind ?_ (fun _ => ?_)
set_option maxHeartbeats 8000000 in
set_option maxRecDepth 100000 in
theorem laws_markIntS.calls (k : Nat) (P0_ : Nat → Prop) (u9000_ : Value) (l0 : List Int) (a1 : Int) (r1 : Int) (r2 : List Int) (w0 w : World) (hB : Below w0.heap.size w0 w) (ho0 : Kd.R (Kd.int .i64) 3 w w0.heap.size P0_ u9000_ l0) (h : laws_markIntS.f k l0 a1 = some (r1, r2)) :
    Calls Try.prog 88 #[u9000_, .int .i64 a1] w fun e w' => e = .returned (.int .i64 r1) ∧ Kd.R (Kd.int .i64) 3 w' w0.heap.size (fun k_ => (P0_ k_ ∨ w.heap.size ≤ k_)) u9000_ r2 ∧ Below w0.heap.size w0 w' ∧ Kept w w' (fun k_ => P0_ k_) := by
  have HO0 := Aside0.mk (show Kd.R (Kd.int .i64) 3 w w0.heap.size (fun k_ => (P0_ k_ ∨ w.heap.size ≤ k_)) u9000_ l0 from Kd.R_mono ho0 (fun k_ hk => (.inl hk)))
  have HK := Aside0.mk (Kept.refl w (fun k_ => P0_ k_))
  have HW0 := Aside0.mk hB.size
  have HB := Aside0.mk hB
  clear hB
  have H := h
  unfold laws_markIntS.f at H
  clear h
  have H' := Aside0.mk H
  clear H
  go_enter Try.func88, Try.ntmps88
  go_wp2
  go_loopg [1, 5] k (fun kq v1 v5 w' => ∃ (x0_1 : List Int) (x1_1 : Int) (x5_1 : Int), v1 = .int .i64 x1_1 ∧ v5 = .int .i64 x5_1 ∧ Aside0 (laws_markIntS.l0 kq x0_1 x1_1 x5_1 = some (r1, r2)) ∧ Aside0 (kq ≤ k) ∧ Aside0 (Kd.R (Kd.int .i64) 3 w' w0.heap.size (fun k_ => (P0_ k_ ∨ w.heap.size ≤ k_)) u9000_ x0_1) ∧ Aside0 (Kept w w' (fun k_ => P0_ k_)) ∧ Aside0 (Below w0.heap.size w0 w'))
  case atStart => exact ⟨(l0), (a1), (0), qc_, qc_, H', ⟨Nat.le_refl _⟩, ⟨(rr_ HO0)⟩, ⟨by repeat (first | (with_reducible first | exact HK.out | apply Kept.alloc | apply Kept.drewN | apply Kept.drew) | exact HK.out)⟩, ⟨hB_⟩⟩
  case round =>
    clear H'
    obtain ⟨x0_1, x1_1, x5_1, rfl, rfl, HA, HK1, HO_0, HK, HB⟩ := hrel
    cases gk with
    | zero => exact absurd HA.out (by simp [laws_markIntS.l0])
    | succ k1 =>
      have H := HA.out
      clear HA
      simp only [laws_markIntS.l0] at H
      by_cases c3 : x5_1 < (x0_1.length : Int)
      · rw [if_pos c3] at H
        have c3b0 := decide_eq_true c3
        clear c3
        have c4 := cp_ H
        replace H := ca_ H
        have c4b0 := decide_eq_true c4
        clear c4
        obtain ⟨y1217, hy1217⟩ : ∃ y_ : List Int, y_ = (x0_1.set (x5_1 : Int).toNat x1_1) := ⟨_, rfl⟩
        replace H : (laws_markIntS.l0 k1 y1217 (wrap64 (x1_1 + 1)) (wrap64 (x5_1 + 1))) = some (r1, r2) := by first | (rw [hy1217]; exact H) | exact H
        have Ny1217 := Aside0.mk hy1217
        clear hy1217
        have H' := Aside0.mk H
        clear H
        obtain ⟨Ao6, co6, eo6⟩ := Kd.R_slice HO_0.out
        subst eo6
        have p5 : 0 ≤ (x5_1 : Int) := of_decide_eq_true qe_
        have q5 : (x5_1 : Int) < ((x0_1.length : Int) : Int) := of_decide_eq_true qe_
        obtain ⟨go5, co5, eo5, gb5, gl5, cl5, HG5⟩ := Kd.R_form HO_0.out (by omega)
        (first | cases eo5 | (injection eo5 with ea_ en_ ec_; (first | subst ea_ | (injection ea_ with ea_; subst ea_)); subst ec_; clear en_))
        have GB5 := Aside0.mk gb5
        have GG5 := Aside0.mk HG5
        clear gb5 gl5 HG5
        have HMgo5 := Aside0.mk (show (P0_ go5 ∨ w.heap.size ≤ go5) from (HO_0.out.1 _ rfl))
        obtain ⟨hx5_0, hf5_0⟩ := Kd.R_celln 0 HO_0.out (x5_1 : Int) p5 q5
        replace p5 := eq_true p5
        replace q5 := eq_true q5
        have HP7 := Kd.R_putg HO_0.out (x5_1 : Int) x1_1
        go_wp2_with (first | ((with_reducible refine gate_store (t := 3) (p := 15) rfl ?_); refine store_event (t := 3) (p := 15) (v := ?vo_w8) (w1 := (wr.setCell ⟨go5, (x5_1 : Int).toNat, none⟩ (.int .i64 x1_1))) ?hg ?ho ?hn ?hr ?_; (case ho => rfl); (case hg => rfl); (case hn => rfl); (case hr => first | (go_simp; done) | (go_simp; rfl)); intro w8 hw; have hg : wr.grownBy w8 (some go5) := (by rw [hw]; exact HP7.2); have hp_ : Kd.R (Kd.int .i64) 3 w8 w0.heap.size (fun k_ => (P0_ k_ ∨ w.heap.size ≤ k_)) (.slice (some ⟨go5, 0, none⟩) x0_1.length co6) y1217 := (by rw [hw, Ny1217.out]; exact HP7.1); clear HP7; replace HB := Aside0.mk ((by rw [hw]; exact below_set (HB.out) GB5.out : Below w0.heap.size w0 w8)); replace HK := Aside0.mk (Kept.of_grown (S := (fun k_ => P0_ k_)) hg (by repeat (first | (with_reducible first | exact HK.out | apply Kept.alloc | apply Kept.drewN | apply Kept.drew) | exact HK.out)) (fun k_ e_ => (HO_0.out.1 k_ e_))); replace HO_0 := Aside0.mk (hp_); clear hg hw hp_))
        go_roundg k1
        case measure => have := HK1.out; omega
        case rel => exact ⟨(y1217), (wrap64 (x1_1 + 1)), (wrap64 (x5_1 + 1)), qc_, qc_, H', ⟨by have := HK1.out; omega⟩, ⟨(rr_ HO_0)⟩, ⟨by repeat (first | (with_reducible first | exact HK.out | apply Kept.alloc | apply Kept.drewN | apply Kept.drew) | exact HK.out)⟩, ⟨hB_⟩⟩
      · rw [if_neg c3] at H
        have c3b0 := decide_eq_false c3
        clear c3
        simp only [Option.some.injEq, Prod.mk.injEq] at H
        obtain ⟨rfl, rfl⟩ := H
        obtain ⟨Ao9, co9, eo9⟩ := Kd.R_slice HO_0.out
        subst eo9
        go_wp2
        go_ret
        exact ⟨qb_, (rr_ HO_0), hB_, by repeat (first | (with_reducible first | exact HK.out | apply Kept.alloc | apply Kept.drewN | apply Kept.drew) | exact HK.out)⟩
end Go.Proofs.Ytoijcallajegfaa.A
end
section
namespace Go.Proofs.Ytoijcallajegfaa.A
open Go.RowKit Go.Proofs.YtoijcallajegfaaW.PrintWords Go.Proofs.YtoijcallajegfaaW.PrintLast Go.Proofs.YtoijcallajegfaaW.PrintMore
attribute [local go_sem] max2_int min2_int max_two min_two max_three min_three max_four min_four
set_option linter.unusedVariables false
set_option linter.unusedSimpArgs false
def laws_markSurfaceS.l0 : Nat → List S33 → Int → Int → Option (Int × List S33)
  | 0, _, _, _ => none
  | k + 1, x0, x1, i => if i < (x0.length : Int) then (if 0 ≤ i then ((laws_markIntS.f k (rd_T33 x0 i).f0 x1).bind fun t => ((laws_markIntS.f k (rd_T33 x0 i).f1 t.1).bind fun s => (laws_markSurfaceS.l0 k (x0.set i.toNat ⟨t.2, s.2⟩) s.1 (wrap64 (i + 1))))) else none) else some (x1, x0)
def laws_markSurfaceS.f (k : Nat) (l0 : List S33) (a1 : Int) : Option (Int × List S33) := laws_markSurfaceS.l0 k l0 a1 0
theorem laws_markSurfaceS.mono_l : ∀ k, (∀ y0 y1 y2, LeO (laws_markSurfaceS.l0 k y0 y1 y2) (laws_markSurfaceS.l0 (k + 1) y0 y1 y2))
  | 0 => fun _ _ _ r h => by simp [laws_markSurfaceS.l0] at h
  | k + 1 => by
    have ih0 := laws_markSurfaceS.mono_l k
    · intro y0 y1 y2
      unfold laws_markSurfaceS.l0
      repeat' first|exact laws_markIntS.mono _ _ _|exact ih0 _ _ _|exact lo_|refine LeO.ite ?_ ?_|refine LeO.bind ?_ (fun _ => ?_)
theorem laws_markSurfaceS.mono : ∀ a0 a1 k, LeO (laws_markSurfaceS.f k a0 a1) (laws_markSurfaceS.f (k + 1) a0 a1) := by
  intro a0 a1 k
  exact laws_markSurfaceS.mono_l k _ _ _
set_option maxHeartbeats 8000000 in
set_option maxRecDepth 100000 in
theorem laws_markSurfaceS.calls (k : Nat) (P0_ : Nat → Prop) (u9000_ : Value) (l0 : List S33) (a1 : Int) (r1 : Int) (r2 : List S33) (w0 w : World) (hB : Below w0.heap.size w0 w) (ho0 : Kd.S k33 33 w w0.heap.size P0_ u9000_ l0) (h : laws_markSurfaceS.f k l0 a1 = some (r1, r2)) :
    Calls Try.prog 39 #[u9000_, .int .i64 a1] w fun e w' => e = .returned (.int .i64 r1) ∧ Kd.S k33 33 w' w0.heap.size (fun k_ => (P0_ k_ ∨ w.heap.size ≤ k_)) u9000_ r2 ∧ Below w0.heap.size w0 w' ∧ Kept w w' (fun k_ => P0_ k_) := by
  have hu := Try.underlying33
  have HO0 := Aside0.mk (show Kd.S k33 33 w w0.heap.size (fun k_ => (P0_ k_ ∨ w.heap.size ≤ k_)) u9000_ l0 from Kd.S_mono ho0 (fun k_ hk => (.inl hk)))
  clear ho0
  have HK := Aside0.mk (Kept.refl w (fun k_ => P0_ k_))
  have HB := Aside0.mk hB
  clear hB
  have H' := Aside0.mk (show laws_markSurfaceS.l0 k l0 a1 0 = some (r1, r2) from h)
  clear h
  obtain ⟨Ao, co, eo⟩ := Kd.R_slice (Kd.S_R HO0.out)
  obtain ⟨n0, hn0⟩ : ∃ n0, n0 = l0.length := ⟨_, rfl⟩
  rw [← hn0] at eo
  have HN0 := Aside0.mk hn0.symm
  clear hn0
  subst eo
  go_enter Try.func39, Try.ntmps39
  go_wp2
  go_loopg [1, 5] k (fun kq v1 v5 w' => ∃ (x0_1 : List S33) (x1_1 : Int) (x5_1 : Int), v1 = .int .i64 x1_1 ∧ v5 = .int .i64 x5_1 ∧ Aside0 (laws_markSurfaceS.l0 kq x0_1 x1_1 x5_1 = some (r1, r2)) ∧ Aside0 (kq ≤ k) ∧ Aside0 (x0_1.length = n0) ∧ Aside0 (Kd.S k33 33 w' w0.heap.size (fun k_ => (P0_ k_ ∨ w.heap.size ≤ k_)) (.slice Ao n0 co) x0_1) ∧ Aside0 (Kept w w' (fun k_ => P0_ k_)) ∧ Aside0 (Below w0.heap.size w0 w'))
  case atStart => exact ⟨l0, a1, 0, rfl, rfl, H', ⟨Nat.le_refl _⟩, HN0, ⟨(ss_ HO0)⟩, ⟨by repeat (first | (with_reducible first | exact HK.out | apply Kept.alloc | apply Kept.drewN | apply Kept.drew) | exact HK.out)⟩, ⟨hB_⟩⟩
  case round =>
    clear H' HO0 HK HB HN0
    obtain ⟨x0, x1, i, rfl, rfl, HA, HK1, HN, HO, HK, HB⟩ := hrel
    cases gk with
    | zero => exact absurd HA.out (by simp [laws_markSurfaceS.l0])
    | succ k1 =>
      have H := HA.out
      clear HA
      simp only [laws_markSurfaceS.l0] at H
      rw [HN.out] at H
      by_cases c3 : i < (n0 : Int)
      · rw [if_pos c3] at H
        have c4 := cp_ H
        replace H := ca_ H
        have c3b0 := decide_eq_true c3
        have c4b0 := decide_eq_true c4
        obtain ⟨⟨t1, t2⟩, A3, H⟩ := Option.bind_eq_some_iff.mp H
        obtain ⟨⟨s1, s2⟩, A4, H⟩ := Option.bind_eq_some_iff.mp H
        have A3 := Aside0.mk A3
        have A4 := Aside0.mk A4
        have H' := Aside0.mk H
        clear H
        obtain ⟨g, cap, eg, hgb, hgl, cells, hcells⟩ := Kd.R_form (Kd.S_R HO.out) (by have := HN.out; omega)
        cases eg
        obtain ⟨oki, c, hcl, hM, hcc, hoki, hH⟩ := Kd.S_lend HO.out ⟨[], []⟩ i c4 c3
        obtain ⟨v0, v1, rfl, hR0, hR1, hne⟩ := k33_openN hM
        change Kd.R _ _ _ _ _ _ (rd_T33 x0 i).f0 at hR0
        change Kd.R _ _ _ _ _ _ (rd_T33 x0 i).f1 at hR1
        obtain ⟨Av, cv, rfl⟩ := Kd.R_slice hR0
        obtain ⟨Au, cu, rfl⟩ := Kd.R_slice hR1
        have hx0 := hcc 0 _ rfl
        have hx1 := hcc 1 _ rfl
        simp only [show k33.sz = 2 from rfl, Nat.add_zero] at hx0 hx1
        have HG := Aside0.mk hoki
        have HR0 := Aside0.mk hR0
        have HR1 := Aside0.mk hR1
        have HH := Aside0.mk hH
        have HNE := Aside0.mk hne
        have HX1 := Aside0.mk hx1
        clear hR0 hR1 hH hoki hcc hcl HO hne
        replace c3 := eq_true c3
        replace c4 := eq_true c4
        go_upto_region 5 with ((with_reducible refine gate_callee (f := 88) rfl ?_); refine goesL_ _ rfl rfl Try.func88 (by kernel_rfl) rfl #[.slice Av (rd_T33 x0 i).f0.length cv, .int .i64 x1] rfl (by (try simp only [List.map_toArray, List.map_cons, List.map_nil]); first | done | rfl) ?_; (refine (laws_markIntS.calls k1 (fun k_ => some k_ = (.slice Av (rd_T33 x0 i).f0.length cv : Value).ownBlock) _ (rd_T33 x0 i).f0 x1 t1 t2 w0 _ ?side1 ?side2 A3.out).mono ?_); (case side1 => repeat (first | (with_reducible first | exact HB.out | apply below_alloc | apply pw_below_drewN | apply below_drew1) | exact HB.out)); (case side2 => (with_reducible repeat (first | apply Kd.R_alloc | apply Kd.R_drewN | apply Kd.R_drew)); exact Kd.R_tight rfl HR0.out); rintro e w9 ⟨rfl, hy0, hb, hkp⟩; refine ⟨_, rfl, ?_⟩; have hx9 := cell_kept HX1.out hkp (fun hs => (HG.out g (HR0.out.1 g hs.symm)).2 rfl); have HY0 := Aside0.mk hy0; have HB9 := Aside0.mk hb; have HK9 := Aside0.mk hkp; clear hy0 hb hkp hx0 hx1)
        go_wp2_with ((with_reducible refine gate_callee (f := 88) rfl ?_); refine goesL_ _ rfl rfl Try.func88 (by kernel_rfl) rfl #[.slice Au (rd_T33 x0 i).f1.length cu, .int .i64 t1] rfl (by (try simp only [List.map_toArray, List.map_cons, List.map_nil]); first | done | rfl) ?_; (refine (laws_markIntS.calls k1 (fun k_ => some k_ = (.slice Au (rd_T33 x0 i).f1.length cu : Value).ownBlock) _ (rd_T33 x0 i).f1 t1 s1 s2 w0 _ HB9.out (Kd.R_kept (Kd.R_tight rfl HR1.out) HK9.out (fun k_ hk hs => HNE.out k_ hs.symm hk.symm)) A4.out).mono ?_); rintro e w10 ⟨rfl, hz0, hb, hkp⟩; refine ⟨_, rfl, ?_⟩; have HZ0 := Aside0.mk hz0; have HB10 := Aside0.mk hb; have HK10 := Aside0.mk hkp; clear hz0 hb hkp)
        have q0 := Kd.R_mono (Kd.R_kept (Kd.R_tight rfl HY0.out) HK10.out (fun k_ hk hs => HNE.out k_ hk.symm hs.symm)) (ok' := oki) (fun k_ hk => HR0.out.1 k_ hk.symm)
        have q1 := Kd.R_mono (Kd.R_tight rfl HZ0.out) (ok' := oki) (fun k_ hk => HR1.out.1 k_ hk.symm)
        have hS := Kd.H_back (Kd.H_kept (Kd.H_kept HH.out HK9.out (fun k_ _ hn hs => hn (HR0.out.1 k_ hs.symm))) HK10.out (fun k_ _ hn hs => hn (HR1.out.1 k_ hs.symm))) (k33_mkM w10 w0.heap.size oki (⟨t2, s2⟩ : S33) q0 q1 HNE.out) (fun k_ hk => hk)
        have HS := Aside0.mk hS
        have HK' := Aside0.mk (Kept.then_ (Kept.then_ HK.out HK9.out (fun k_ hk => (HG.out k_ (HR0.out.1 k_ hk.symm)).1)) HK10.out (fun k_ hk => (HG.out k_ (HR1.out.1 k_ hk.symm)).1))
        clear hS q0 q1
        go_roundg k1
        case measure => have := HK1.out; omega
        case rel => exact ⟨x0.set i.toNat ⟨t2, s2⟩, s1, wrap64 (i + 1), rfl, rfl, H', ⟨by have := HK1.out; omega⟩, ⟨by rw [List.length_set]⟩, HS, HK', HB10⟩
      · rw [if_neg c3] at H
        have c3b0 := decide_eq_false c3
        clear c3
        simp only [Option.some.injEq, Prod.mk.injEq] at H
        obtain ⟨rfl, rfl⟩ := H
        go_wp2
        go_ret
        exact ⟨rfl, (ss_ HO), hB_, by repeat (first | (with_reducible first | exact HK.out | apply Kept.alloc | apply Kept.drewN | apply Kept.drew) | exact HK.out)⟩
end Go.Proofs.Ytoijcallajegfaa.A
end
section
namespace Go.Proofs.Ytoijcallajegfaa.A
open Go.RowKit Go.Proofs.YtoijcallajegfaaW.PrintWords Go.Proofs.YtoijcallajegfaaW.PrintLast Go.Proofs.YtoijcallajegfaaW.PrintMore
attribute [local go_sem] max2_int min2_int max_two min_two max_three min_three max_four min_four
set_option linter.unusedVariables false
set_option linter.unusedSimpArgs false
def laws_heldIntS.l0 : Nat → List Int → Int → Int → Option (Int)
  | 0, _, _, _ => none
  | k + 1, x0, x1, x5 => if x5 < (x0.length : Int) then (if 0 ≤ x5 then (if (rd x0 x5) = x1 then (laws_heldIntS.l0 k x0 (wrap64 (x1 + 1)) (wrap64 (x5 + 1))) else (some (-1))) else (none)) else (some x1)
def laws_heldIntS.f (k : Nat) (l0 : List Int) (a1 : Int) : Option (Int) := laws_heldIntS.l0 k l0 a1 0
theorem laws_heldIntS.mono_l : ∀ k, (∀ y0 y1 y2, LeO (laws_heldIntS.l0 k y0 y1 y2) (laws_heldIntS.l0 (k + 1) y0 y1 y2))
  | 0 => fun _ _ _ r h => by simp [laws_heldIntS.l0] at h
  | k + 1 => by
    have ih0 := laws_heldIntS.mono_l k
    · intro y0 y1 y2
      unfold laws_heldIntS.l0
      repeat' first|exact ih0 _ _ _|exact lo_|refine LeO.ite ?_ ?_|refine LeO.bind ?_ (fun _ => ?_)
theorem laws_heldIntS.mono : ∀ a0 a1 k, LeO (laws_heldIntS.f k a0 a1) (laws_heldIntS.f (k + 1) a0 a1) := by
  intro a0 a1 k
  have ih0 := laws_heldIntS.mono_l k
  unfold laws_heldIntS.f
  repeat' first|exact ih0 _ _ _|exact lo_|refine LeO.ite ?_ ?_|refine LeO.bind ?_ (fun _ => ?_)
set_option maxHeartbeats 8000000 in
set_option maxRecDepth 100000 in
theorem laws_heldIntS.calls (k : Nat) (A0 : Option Addr) (c0 : Nat) (l0 : List Int) (a1 : Int) (r : Int) (w : World) (hr0 : Kd.C (Kd.int .i64) w A0 l0.length l0) (hc0 : l0.length ≤ c0) (h : laws_heldIntS.f k l0 a1 = some r) :
    Calls Try.prog 89 #[.slice A0 l0.length c0, .int .i64 a1] w fun e w' => e = .returned (.int .i64 r) ∧ Drawn0 w w' := by
  have HR0 := Aside0.mk hr0
  have HC0 := Aside0.mk hc0
  clear hr0 hc0
  have H := h
  unfold laws_heldIntS.f at H
  clear h
  have H' := Aside0.mk H
  clear H
  go_enter Try.func89, Try.ntmps89
  go_wp2
  go_loopg [1, 5] k (fun kq v1 v5 w' => ∃ (x1_1 : Int) (x5_1 : Int), v1 = .int .i64 x1_1 ∧ v5 = .int .i64 x5_1 ∧ Aside0 (laws_heldIntS.l0 kq l0 x1_1 x5_1 = some r) ∧ Aside0 (kq ≤ k) ∧ Drawn0 w w')
  case atStart => exact ⟨(a1), (0), qc_, qc_, H', ⟨Nat.le_refl _⟩, by repeat (first | exact Drawn0.refl _ | apply Drawn0.step)⟩
  case round =>
    clear H'
    obtain ⟨x1_1, x5_1, rfl, rfl, HA, HK1, ⟨m1, rfl⟩⟩ := hrel
    cases gk with
    | zero => exact absurd HA.out (by simp [laws_heldIntS.l0])
    | succ k1 =>
      have H := HA.out
      clear HA
      simp only [laws_heldIntS.l0] at H
      by_cases c3 : x5_1 < (l0.length : Int)
      · rw [if_pos c3] at H
        have c3b0 := decide_eq_true c3
        clear c3
        have c4 := cp_ H
        replace H := ca_ H
        have c4b0 := decide_eq_true c4
        clear c4
        by_cases c5 : (rd l0 x5_1) = x1_1
        · rw [if_pos c5] at H
          have c5b0 : ((rd l0 x5_1) == x1_1) = true := beq_iff_eq.mpr c5
          have c5b1 : ((rd l0 x5_1) != x1_1) = false := bne_eq_false_iff_eq.mpr c5
          clear c5
          have H' := Aside0.mk H
          clear H
          have p1218 : 0 ≤ (x5_1 : Int) := of_decide_eq_true qe_
          have q1218 : x5_1 < (l0.length : Int) := of_decide_eq_true qe_
          obtain ⟨ad1218, e1218, hx1218_0⟩ := Kd.at_int HR0.out x5_1 p1218 q1218
          cases e1218
          replace p1218 := eq_true p1218
          replace q1218 := eq_true q1218
          go_wp2
          go_roundg k1
          case measure => have := HK1.out; omega
          case rel => exact ⟨(wrap64 (x1_1 + 1)), (wrap64 (x5_1 + 1)), qc_, qc_, H', ⟨by have := HK1.out; omega⟩, by repeat (first | exact Drawn0.refl _ | apply Drawn0.step)⟩
        · rw [if_neg c5] at H
          have c5b0 : ((rd l0 x5_1) == x1_1) = false := beq_eq_false_iff_ne.mpr c5
          have c5b1 : ((rd l0 x5_1) != x1_1) = true := bne_iff_ne.mpr c5
          obtain rfl := Option.some.inj H
          have p1218 : 0 ≤ (x5_1 : Int) := of_decide_eq_true qe_
          have q1218 : x5_1 < (l0.length : Int) := of_decide_eq_true qe_
          obtain ⟨ad1218, e1218, hx1218_0⟩ := Kd.at_int HR0.out x5_1 p1218 q1218
          cases e1218
          replace p1218 := eq_true p1218
          replace q1218 := eq_true q1218
          go_wp2
          go_ret
          exact ⟨qc_, by repeat (first | exact Drawn0.refl _ | apply Drawn0.step)⟩
      · rw [if_neg c3] at H
        have c3b0 := decide_eq_false c3
        clear c3
        obtain rfl := Option.some.inj H
        go_wp2
        go_ret
        exact ⟨qc_, by repeat (first | exact Drawn0.refl _ | apply Drawn0.step)⟩
end Go.Proofs.Ytoijcallajegfaa.A
end
section
namespace Go.Proofs.Ytoijcallajegfaa.A
open Go.RowKit Go.Proofs.YtoijcallajegfaaW.PrintWords Go.Proofs.YtoijcallajegfaaW.PrintLast Go.Proofs.YtoijcallajegfaaW.PrintMore
attribute [local go_sem] max2_int min2_int max_two min_two max_three min_three max_four min_four
set_option linter.unusedVariables false
set_option linter.unusedSimpArgs false
def laws_heldSurfaceS.l0 : Nat → List (S33) → Int → Int → Option (Int)
  | 0, _, _, _ => none
  | k + 1, x0, x1, x5 => if x5 < (x0.length : Int) then (if 0 ≤ x5 then ((laws_heldIntS.f k ((rd_T33 x0 x5).f0) x1).bind fun t1220 => (if t1220 < 0 then (some (-1)) else ((laws_heldIntS.f k ((rd_T33 x0 x5).f1) t1220).bind fun t1222 => (if t1222 < 0 then (some (-1)) else (laws_heldSurfaceS.l0 k x0 t1222 (wrap64 (x5 + 1))))))) else (none)) else (some x1)
def laws_heldSurfaceS.f (k : Nat) (l0 : List (S33)) (a1 : Int) : Option (Int) := laws_heldSurfaceS.l0 k l0 a1 0
theorem laws_heldSurfaceS.mono_l : ∀ k, (∀ y0 y1 y2, LeO (laws_heldSurfaceS.l0 k y0 y1 y2) (laws_heldSurfaceS.l0 (k + 1) y0 y1 y2))
  | 0 => fun _ _ _ r h => by simp [laws_heldSurfaceS.l0] at h
  | k + 1 => by
    have ih0 := laws_heldSurfaceS.mono_l k
    · intro y0 y1 y2
      unfold laws_heldSurfaceS.l0
      repeat' first|exact ih0 _ _ _|exact laws_heldIntS.mono _ _ _|exact lo_|refine LeO.ite ?_ ?_|refine LeO.bind ?_ (fun _ => ?_)
theorem laws_heldSurfaceS.mono : ∀ a0 a1 k, LeO (laws_heldSurfaceS.f k a0 a1) (laws_heldSurfaceS.f (k + 1) a0 a1) := by
  intro a0 a1 k
  have ih0 := laws_heldSurfaceS.mono_l k
  unfold laws_heldSurfaceS.f
  repeat' first|exact ih0 _ _ _|exact laws_heldIntS.mono _ _ _|exact lo_|refine LeO.ite ?_ ?_|refine LeO.bind ?_ (fun _ => ?_)
set_option maxHeartbeats 8000000 in
set_option maxRecDepth 100000 in
theorem laws_heldSurfaceS.calls (k : Nat) (A0 : Option Addr) (c0 : Nat) (l0 : List (S33)) (a1 : Int) (r : Int) (w : World) (hr0 : Kd.C k33 w A0 l0.length l0) (hc0 : l0.length ≤ c0) (h : laws_heldSurfaceS.f k l0 a1 = some r) :
    Calls Try.prog 40 #[.slice A0 l0.length c0, .int .i64 a1] w fun e w' => e = .returned (.int .i64 r) ∧ Drawn0 w w' := by
  have HR0 := Aside0.mk hr0
  have HC0 := Aside0.mk hc0
  clear hr0 hc0
  have H := h
  unfold laws_heldSurfaceS.f at H
  clear h
  have H' := Aside0.mk H
  clear H
  go_enter Try.func40, Try.ntmps40
  go_wp2
  go_loopg [1, 5] k (fun kq v1 v5 w' => ∃ (x1_1 : Int) (x5_1 : Int), v1 = .int .i64 x1_1 ∧ v5 = .int .i64 x5_1 ∧ Aside0 (laws_heldSurfaceS.l0 kq l0 x1_1 x5_1 = some r) ∧ Aside0 (kq ≤ k) ∧ Drawn0 w w')
  case atStart => exact ⟨(a1), (0), qc_, qc_, H', ⟨Nat.le_refl _⟩, by repeat (first | exact Drawn0.refl _ | apply Drawn0.step)⟩
  case round =>
    clear H'
    obtain ⟨x1_1, x5_1, rfl, rfl, HA, HK1, ⟨m1, rfl⟩⟩ := hrel
    cases gk with
    | zero => exact absurd HA.out (by simp [laws_heldSurfaceS.l0])
    | succ k1 =>
      have H := HA.out
      clear HA
      simp only [laws_heldSurfaceS.l0] at H
      by_cases c3 : x5_1 < (l0.length : Int)
      · rw [if_pos c3] at H
        have c3b0 := decide_eq_true c3
        clear c3
        have c4 := cp_ H
        replace H := ca_ H
        have c4b0 := decide_eq_true c4
        clear c4
        obtain ⟨t1220, A5, H⟩ := bi_ H
        by_cases c6 : t1220 < 0
        · rw [if_pos c6] at H
          have c6b0 := decide_eq_true c6
          clear c6
          obtain rfl := Option.some.inj H
          have p1219 : 0 ≤ (x5_1 : Int) := of_decide_eq_true qe_
          have q1219 : x5_1 < (l0.length : Int) := of_decide_eq_true qe_
          obtain ⟨ad1219, A1219_0, c1219_0, A1219_1, c1219_1, e1219, hx1219_0, hx1219_1, hl1219_0, hi1219_0, hl1219_1, hi1219_1⟩ := at_T33 HR0.out x5_1 p1219 q1219
          cases e1219
          have HR1219_0 := Aside0.mk hi1219_0
          have HC1219_0 := Aside0.mk hl1219_0
          clear hi1219_0 hl1219_0
          have HR1219_1 := Aside0.mk hi1219_1
          have HC1219_1 := Aside0.mk hl1219_1
          clear hi1219_1 hl1219_1
          replace p1219 := eq_true p1219
          replace q1219 := eq_true q1219
          go_wp2_with (first | ((with_reducible refine gate_callee (f := 89) rfl ?_); refine gL_ (some 18) Try.func89 #[.slice A1219_0 ((rd_T33 l0 x5_1).f0).length c1219_0, .int .i64 x1_1] rfl qa_ ?_; (with_reducible refine (laws_heldIntS.calls k1 _ _ ((rd_T33 l0 x5_1).f0) x1_1 t1220 _ (cc_ HR1219_0) HC1219_0.out A5.out).mono ?_); rintro e w' ⟨rfl, ⟨nd, rfl⟩⟩; refine ⟨_, rfl, ?_⟩))
          go_ret
          exact ⟨qc_, by repeat (first | exact Drawn0.refl _ | apply Drawn0.step)⟩
        · rw [if_neg c6] at H
          have c6b0 := decide_eq_false c6
          clear c6
          obtain ⟨t1222, A7, H⟩ := bi_ H
          by_cases c8 : t1222 < 0
          · rw [if_pos c8] at H
            have c8b0 := decide_eq_true c8
            clear c8
            obtain rfl := Option.some.inj H
            have p1219 : 0 ≤ (x5_1 : Int) := of_decide_eq_true qe_
            have q1219 : x5_1 < (l0.length : Int) := of_decide_eq_true qe_
            obtain ⟨ad1219, A1219_0, c1219_0, A1219_1, c1219_1, e1219, hx1219_0, hx1219_1, hl1219_0, hi1219_0, hl1219_1, hi1219_1⟩ := at_T33 HR0.out x5_1 p1219 q1219
            cases e1219
            have HR1219_0 := Aside0.mk hi1219_0
            have HC1219_0 := Aside0.mk hl1219_0
            clear hi1219_0 hl1219_0
            have HR1219_1 := Aside0.mk hi1219_1
            have HC1219_1 := Aside0.mk hl1219_1
            clear hi1219_1 hl1219_1
            replace p1219 := eq_true p1219
            replace q1219 := eq_true q1219
            go_wp2_with (first | ((with_reducible refine gate_callee (f := 89) rfl ?_); refine gL_ (some 18) Try.func89 #[.slice A1219_0 ((rd_T33 l0 x5_1).f0).length c1219_0, .int .i64 x1_1] rfl qa_ ?_; (with_reducible refine (laws_heldIntS.calls k1 _ _ ((rd_T33 l0 x5_1).f0) x1_1 t1220 _ (cc_ HR1219_0) HC1219_0.out A5.out).mono ?_); rintro e w' ⟨rfl, ⟨nd, rfl⟩⟩; refine ⟨_, rfl, ?_⟩; have p1221 : 0 ≤ (x5_1 : Int) := of_decide_eq_true qe_; have q1221 : x5_1 < (l0.length : Int) := of_decide_eq_true qe_; obtain ⟨ad1221, A1221_0, c1221_0, A1221_1, c1221_1, e1221, hx1221_0, hx1221_1, hl1221_0, hi1221_0, hl1221_1, hi1221_1⟩ := at_T33 HR0.out x5_1 p1221 q1221; obtain rfl : ad1219 = ad1221 := (by injection e1221); have HR1221_0 := Aside0.mk hi1221_0; have HC1221_0 := Aside0.mk hl1221_0; clear hi1221_0 hl1221_0; have HR1221_1 := Aside0.mk hi1221_1; have HC1221_1 := Aside0.mk hl1221_1; clear hi1221_1 hl1221_1; replace p1221 := eq_true p1221; replace q1221 := eq_true q1221; have ea_ := Option.some.inj (hx1219_0.symm.trans hx1221_0); injection ea_ with ea_ en_ ec_; subst ea_; subst ec_; clear en_; have ea_ := Option.some.inj (hx1219_1.symm.trans hx1221_1); injection ea_ with ea_ en_ ec_; subst ea_; subst ec_; clear en_) | ((with_reducible refine gate_callee (f := 89) rfl ?_); refine gL_ (some 27) Try.func89 #[.slice A1219_1 ((rd_T33 l0 x5_1).f1).length c1219_1, .int .i64 t1220] rfl qa_ ?_; (with_reducible refine (laws_heldIntS.calls k1 _ _ ((rd_T33 l0 x5_1).f1) t1220 t1222 _ (cc_ HR1221_1) HC1221_1.out A7.out).mono ?_); rintro e w' ⟨rfl, ⟨nd, rfl⟩⟩; refine ⟨_, rfl, ?_⟩))
            go_ret
            exact ⟨qc_, by repeat (first | exact Drawn0.refl _ | apply Drawn0.step)⟩
          · rw [if_neg c8] at H
            have c8b0 := decide_eq_false c8
            clear c8
            have H' := Aside0.mk H
            clear H
            have p1219 : 0 ≤ (x5_1 : Int) := of_decide_eq_true qe_
            have q1219 : x5_1 < (l0.length : Int) := of_decide_eq_true qe_
            obtain ⟨ad1219, A1219_0, c1219_0, A1219_1, c1219_1, e1219, hx1219_0, hx1219_1, hl1219_0, hi1219_0, hl1219_1, hi1219_1⟩ := at_T33 HR0.out x5_1 p1219 q1219
            cases e1219
            have HR1219_0 := Aside0.mk hi1219_0
            have HC1219_0 := Aside0.mk hl1219_0
            clear hi1219_0 hl1219_0
            have HR1219_1 := Aside0.mk hi1219_1
            have HC1219_1 := Aside0.mk hl1219_1
            clear hi1219_1 hl1219_1
            replace p1219 := eq_true p1219
            replace q1219 := eq_true q1219
            go_wp2_with (first | ((with_reducible refine gate_callee (f := 89) rfl ?_); refine gL_ (some 18) Try.func89 #[.slice A1219_0 ((rd_T33 l0 x5_1).f0).length c1219_0, .int .i64 x1_1] rfl qa_ ?_; (with_reducible refine (laws_heldIntS.calls k1 _ _ ((rd_T33 l0 x5_1).f0) x1_1 t1220 _ (cc_ HR1219_0) HC1219_0.out A5.out).mono ?_); rintro e w' ⟨rfl, ⟨nd, rfl⟩⟩; refine ⟨_, rfl, ?_⟩; have p1221 : 0 ≤ (x5_1 : Int) := of_decide_eq_true qe_; have q1221 : x5_1 < (l0.length : Int) := of_decide_eq_true qe_; obtain ⟨ad1221, A1221_0, c1221_0, A1221_1, c1221_1, e1221, hx1221_0, hx1221_1, hl1221_0, hi1221_0, hl1221_1, hi1221_1⟩ := at_T33 HR0.out x5_1 p1221 q1221; obtain rfl : ad1219 = ad1221 := (by injection e1221); have HR1221_0 := Aside0.mk hi1221_0; have HC1221_0 := Aside0.mk hl1221_0; clear hi1221_0 hl1221_0; have HR1221_1 := Aside0.mk hi1221_1; have HC1221_1 := Aside0.mk hl1221_1; clear hi1221_1 hl1221_1; replace p1221 := eq_true p1221; replace q1221 := eq_true q1221; have ea_ := Option.some.inj (hx1219_0.symm.trans hx1221_0); injection ea_ with ea_ en_ ec_; subst ea_; subst ec_; clear en_; have ea_ := Option.some.inj (hx1219_1.symm.trans hx1221_1); injection ea_ with ea_ en_ ec_; subst ea_; subst ec_; clear en_) | ((with_reducible refine gate_callee (f := 89) rfl ?_); refine gL_ (some 27) Try.func89 #[.slice A1219_1 ((rd_T33 l0 x5_1).f1).length c1219_1, .int .i64 t1220] rfl qa_ ?_; (with_reducible refine (laws_heldIntS.calls k1 _ _ ((rd_T33 l0 x5_1).f1) t1220 t1222 _ (cc_ HR1221_1) HC1221_1.out A7.out).mono ?_); rintro e w' ⟨rfl, ⟨nd, rfl⟩⟩; refine ⟨_, rfl, ?_⟩))
            go_roundg k1
            case measure => have := HK1.out; omega
            case rel => exact ⟨(t1222), (wrap64 (x5_1 + 1)), qc_, qc_, H', ⟨by have := HK1.out; omega⟩, by repeat (first | exact Drawn0.refl _ | apply Drawn0.step)⟩
      · rw [if_neg c3] at H
        have c3b0 := decide_eq_false c3
        clear c3
        obtain rfl := Option.some.inj H
        go_wp2
        go_ret
        exact ⟨qc_, by repeat (first | exact Drawn0.refl _ | apply Drawn0.step)⟩
end Go.Proofs.Ytoijcallajegfaa.A
end
section
/- What a call made lies apart from what was there. No conditions. -/
namespace Go.Proofs.Ytoijcallajegfaa.M
open Go.RowKit Go.Proofs.YtoijcallajegfaaW.PrintWords Go.Proofs.YtoijcallajegfaaW.PrintLast Go.Proofs.YtoijcallajegfaaW.PrintMore
theorem fresh_S {α : Type} {d : Kd α} {e b b0 : Nat} {w : World} {ok : Nat → Prop} {v : Value} {xs : List α} (h : Kd.S d e w b ok v xs) (hb : b0 ≤ b) : Kd.S d e w b0 (fun k => b ≤ k ∧ k < w.heap.size) v xs :=
  Kd.S_lower (Kd.S_mono (Kd.S_bound h) (fun _ hk => ⟨hk.2.1, hk.2.2.1⟩)) hb
end Go.Proofs.Ytoijcallajegfaa.M
end
section
namespace Go.Proofs.Ytoijcallajegfaa.A
open Go.RowKit Go.Proofs.YtoijcallajegfaaW.PrintWords Go.Proofs.YtoijcallajegfaaW.PrintLast Go.Proofs.YtoijcallajegfaaW.PrintMore Go.Proofs.Ytoijcallajegfaa.M
set_option linter.unusedVariables false
set_option linter.unusedSimpArgs false
theorem fresh_N {α : Type} {d : Kd α} {e b b0 : Nat} {w : World} {ok : Nat → Prop} {v : Value} {xs : List α} (h : Kd.N d e w b ok v xs) (hb : b0 ≤ b) : Kd.N d e w b0 (fun k => 0 ≤ k ∧ k < w.heap.size) v xs := Kd.N_lower (Kd.N_mono (Kd.N_bound h) (fun _ hk => ⟨Nat.zero_le _, hk.2⟩)) hb
def laws_FnExactSurfacesWith.F (k : Nat) (a0 : Int) : Prop := ∃ (r0 : List S33) (m0 : Int) (z0 : List S33), spec_SurfacesWith.f k a0 = some r0 ∧ impl_SurfacesWith.f k a0 = some r0 ∧ laws_eqSurfaceS.f k r0 r0 = some true ∧ laws_markSurfaceS.f k r0 1 = some (m0, z0) ∧ laws_heldSurfaceS.f k z0 1 = some m0 ∧ decide (m0 < 0) = false
set_option maxHeartbeats 8000000 in
set_option maxRecDepth 100000 in
theorem laws_FnExactSurfacesWith.calls (k : Nat) (a0 : Int) (w : World)  (h : laws_FnExactSurfacesWith.F k a0) :
    Calls Try.prog 7 #[.int .i64 a0] w fun e w' => e = .returned (.bool true) ∧ Below w.heap.size w w' := by
  have HB := Aside0.mk (Below.refl w.heap.size w)
  unfold laws_FnExactSurfacesWith.F at h
  obtain ⟨r0, m0, z0, FW, FG, FQ0, FM0, FH0, FMM0⟩ := h
  replace FW := Aside0.mk FW
  replace FG := Aside0.mk FG
  replace FQ0 := Aside0.mk FQ0
  replace FM0 := Aside0.mk FM0
  replace FH0 := Aside0.mk FH0
  go_enter Try.func7, Try.ntmps7
  go_upto_region 1 with (fail)
  go_upto_region 2 with (first | ((with_reducible refine gate_callee (f := 37) rfl ?_); refine goesL_ _ rfl rfl Try.func37 (by kernel_rfl) rfl #[.int .i64 a0] rfl (by (try simp only [List.map_toArray, List.map_cons, List.map_nil]); first | done | rfl) ?_; have HBo := HB.out; refine (spec_SurfacesWith.calls k a0 r0 _  FW.out).mono ?_; rintro e w1 ⟨v0_, rfl, h0_, hb0⟩; refine ⟨_, rfl, ?_⟩; have n_ := Aside0.mk (below_then HBo HBo.size hb0); clear HB; have HB := n_; clear n_; have HSw1 := Aside0.mk hb0.size; have Hw0 := Aside0.mk (fresh_N (b0 := w.heap.size) h0_ HBo.size); clear h0_; obtain ⟨Aw0, cw0, ew0⟩ := Kd.N_slice Hw0.out; subst ew0; clear hb0 HBo))
  go_upto_region 3 with (first | ((with_reducible refine gate_callee (f := 12) rfl ?_); refine goesL_ _ rfl rfl Try.func12 (by kernel_rfl) rfl #[.int .i64 a0] rfl (by (try simp only [List.map_toArray, List.map_cons, List.map_nil]); first | done | rfl) ?_; have HBo := HB.out; refine (impl_SurfacesWith.calls k a0 r0 _  FG.out).mono ?_; rintro e w2 ⟨v0_, rfl, h0_, hb0⟩; refine ⟨_, rfl, ?_⟩; have n_ := Aside0.mk (Kd.N_below Hw0.out hb0); clear Hw0; have Hw0 := n_; clear n_; have n_ := Aside0.mk (below_then HBo HBo.size hb0); clear HB; have HB := n_; clear n_; have HSw2 := Aside0.mk hb0.size; have Hg0 := Aside0.mk (fresh_S (b0 := w.heap.size) h0_ HBo.size); clear h0_; obtain ⟨Ag0, cg0, eg0⟩ := Kd.R_slice (Kd.S_R Hg0.out); subst eg0; clear hb0 HBo))
  go_upto_region 6 with (first | ((with_reducible refine gate_callee (f := 38) rfl ?_); refine goesL_ _ rfl rfl Try.func38 (by kernel_rfl) rfl #[.slice Ag0 r0.length cg0, .slice Aw0 r0.length cw0] rfl (by (try simp only [List.map_toArray, List.map_cons, List.map_nil]); first | done | rfl) ?_; have HBo := HB.out; refine (laws_eqSurfaceS.calls k Ag0 cg0 r0 Aw0 cw0 r0 true _ (Kd.R_reads' (Kd.S_R Hg0.out)).2.2 (Kd.R_reads' (Kd.S_R Hg0.out)).2.1 (Kd.N_reads' Hw0.out).2.2 (Kd.N_reads' Hw0.out).2.1 FQ0.out).mono ?_; rintro e w3 ⟨rfl, hb0⟩; refine ⟨_, rfl, ?_⟩; have n_ := Aside0.mk (Kd.N_below Hw0.out hb0); clear Hw0; have Hw0 := n_; clear n_; have n_ := Aside0.mk (Kd.S_below Hg0.out hb0); clear Hg0; have Hg0 := n_; clear n_; have n_ := Aside0.mk (below_then HBo HBo.size hb0); clear HB; have HB := n_; clear n_; have HSw3 := Aside0.mk hb0.size; clear hb0 HBo))
  go_upto_region 8 with (first | ((with_reducible refine gate_callee (f := 39) rfl ?_); refine goesL_ _ rfl rfl Try.func39 (by kernel_rfl) rfl #[.slice Ag0 r0.length cg0, .int .i64 1] rfl (by (try simp only [List.map_toArray, List.map_cons, List.map_nil]); first | done | rfl) ?_; have HBo := HB.out; refine (laws_markSurfaceS.calls k (fun k_ => w1.heap.size ≤ k_ ∧ k_ < w2.heap.size) _ r0 1 m0 z0 w _ HB.out Hg0.out FM0.out).mono ?_; rintro e w4 ⟨rfl, hy0_, hb0, hkp⟩; refine ⟨_, rfl, ?_⟩; have Xy := Aside0.mk (hy0_); have n_ := Aside0.mk (Kd.N_kept Hw0.out hkp (fun k_ hk hs => by have := hk.1; have := hk.2; have := hs.1; have := hs.2; have := HSw1.out; have := HSw2.out; have := HSw3.out; omega)); clear Hw0; have Hw0 := n_; clear n_; have n_ := Aside0.mk (hb0); clear HB; have HB := n_; clear n_; have HSw4 := Aside0.mk hkp.1; clear Hg0; have Hy := Xy; clear Xy; clear hb0 hkp HBo; have Hg0 := Hy; clear Hy; have EL0 := Aside0.mk (show r0.length = z0.length from (Kd.R_reads' (Kd.S_R Hg0.out)).1)))
  go_upto_region 13 with (first | ((with_reducible refine gate_callee (f := 40) rfl ?_); refine goesL_ _ rfl rfl Try.func40 (by kernel_rfl) rfl #[.slice Ag0 z0.length cg0, .int .i64 1] rfl (by (try simp only [List.map_toArray, List.map_cons, List.map_nil]); first | done | rfl | (rw [← EL0.out]; rfl)) ?_; have HBo := HB.out; refine (laws_heldSurfaceS.calls k Ag0 cg0 z0 1 m0 _ (Kd.R_reads' (Kd.S_R Hg0.out)).2.2 (Nat.le_trans (Nat.le_of_eq EL0.out.symm) (Kd.R_reads' (Kd.S_R Hg0.out)).2.1) FH0.out).mono ?_; rintro e w5 ⟨rfl, hd⟩; refine ⟨_, rfl, ?_⟩; replace hd := Drawn0.below hd; have n_ := Aside0.mk (Kd.N_below Hw0.out hd); clear Hw0; have Hw0 := n_; clear n_; have n_ := Aside0.mk (Kd.S_below Hg0.out hd); clear Hg0; have Hg0 := n_; clear n_; have n_ := Aside0.mk (below_then HBo HBo.size hd); clear HB; have HB := n_; clear n_; have HSw5 := Aside0.mk hd.size; clear hd HBo))
  go_upto_region 14 with (first | ((with_reducible refine gate_callee (f := 12) rfl ?_); refine goesL_ _ rfl rfl Try.func12 (by kernel_rfl) rfl #[.int .i64 a0] rfl (by (try simp only [List.map_toArray, List.map_cons, List.map_nil]); first | done | rfl | (rw [← EL0.out]; rfl)) ?_; have HBo := HB.out; refine (impl_SurfacesWith.calls k a0 r0 _  FG.out).mono ?_; rintro e w6 ⟨v0_, rfl, h0_, hb0⟩; refine ⟨_, rfl, ?_⟩; have n_ := Aside0.mk (Kd.N_below Hw0.out hb0); clear Hw0; have Hw0 := n_; clear n_; have n_ := Aside0.mk (Kd.S_below Hg0.out hb0); clear Hg0; have Hg0 := n_; clear n_; have n_ := Aside0.mk (below_then HBo HBo.size hb0); clear HB; have HB := n_; clear n_; have HSw6 := Aside0.mk hb0.size; have Hh0 := Aside0.mk (fresh_S (b0 := w.heap.size) h0_ HBo.size); clear h0_; obtain ⟨Ah0, ch0, eh0⟩ := Kd.R_slice (Kd.S_R Hh0.out); subst eh0; clear hb0 HBo))
  go_upto_region 17 with (first | ((with_reducible refine gate_callee (f := 38) rfl ?_); refine goesL_ _ rfl rfl Try.func38 (by kernel_rfl) rfl #[.slice Ah0 r0.length ch0, .slice Aw0 r0.length cw0] rfl (by (try simp only [List.map_toArray, List.map_cons, List.map_nil]); first | done | rfl | (rw [← EL0.out]; rfl)) ?_; have HBo := HB.out; refine (laws_eqSurfaceS.calls k Ah0 ch0 r0 Aw0 cw0 r0 true _ (Kd.R_reads' (Kd.S_R Hh0.out)).2.2 (Kd.R_reads' (Kd.S_R Hh0.out)).2.1 (Kd.N_reads' Hw0.out).2.2 (Kd.N_reads' Hw0.out).2.1 FQ0.out).mono ?_; rintro e w7 ⟨rfl, hb0⟩; refine ⟨_, rfl, ?_⟩; have n_ := Aside0.mk (Kd.N_below Hw0.out hb0); clear Hw0; have Hw0 := n_; clear n_; have n_ := Aside0.mk (Kd.S_below Hg0.out hb0); clear Hg0; have Hg0 := n_; clear n_; have n_ := Aside0.mk (Kd.S_below Hh0.out hb0); clear Hh0; have Hh0 := n_; clear n_; have n_ := Aside0.mk (below_then HBo HBo.size hb0); clear HB; have HB := n_; clear n_; have HSw7 := Aside0.mk hb0.size; clear hb0 HBo))
  go_wp2_with (first | ((with_reducible refine gate_callee (f := 40) rfl ?_); refine goesL_ _ rfl rfl Try.func40 (by kernel_rfl) rfl #[.slice Ag0 z0.length cg0, .int .i64 1] rfl (by (try simp only [List.map_toArray, List.map_cons, List.map_nil]); first | done | rfl | (rw [← EL0.out]; rfl)) ?_; have HBo := HB.out; refine (laws_heldSurfaceS.calls k Ag0 cg0 z0 1 m0 _ (Kd.R_reads' (Kd.S_R Hg0.out)).2.2 (Nat.le_trans (Nat.le_of_eq EL0.out.symm) (Kd.R_reads' (Kd.S_R Hg0.out)).2.1) FH0.out).mono ?_; rintro e w8 ⟨rfl, hd⟩; refine ⟨_, rfl, ?_⟩; replace hd := Drawn0.below hd; have n_ := Aside0.mk (Kd.N_below Hw0.out hd); clear Hw0; have Hw0 := n_; clear n_; have n_ := Aside0.mk (Kd.S_below Hg0.out hd); clear Hg0; have Hg0 := n_; clear n_; have n_ := Aside0.mk (Kd.S_below Hh0.out hd); clear Hh0; have Hh0 := n_; clear n_; have n_ := Aside0.mk (below_then HBo HBo.size hd); clear HB; have HB := n_; clear n_; have HSw8 := Aside0.mk hd.size; clear hd HBo))
  go_ret
  exact ⟨rfl, HB.out⟩
end Go.Proofs.Ytoijcallajegfaa.A
end
section
/- Lists of surfaces sorted, each once: put in one by one, or all at the end. No conditions. -/
namespace Go.Proofs.Ytoijcallajegfaa.M
set_option linter.unusedVariables false
set_option linter.unusedSimpArgs false
open Go.RowKit Go.Proofs.YtoijcallajegfaaW.PrintWords Go.Proofs.YtoijcallajegfaaW.PrintLast Go.Proofs.YtoijcallajegfaaW.PrintMore Go.Proofs.Ytoijcallajegfaa.A
def Up (l : List (List Nat × List Nat)) : Prop := l.Pairwise (fun a b => cmpS a b < 0)
theorem Up.nodup {l : List (List Nat × List Nat)} (h : Up l) : l.Nodup :=
  h.imp (fun {a b} hab e => by subst e; rw [(cmpS_eq _ _).2 rfl] at hab; omega)
theorem up_uniq {l l' : List (List Nat × List Nat)} (h : Up l) (h' : Up l') (hm : ∀ x, x ∈ l ↔ x ∈ l') : l = l' := by
  refine List.Perm.eq_of_pairwise (le := fun a b => cmpS a b < 0) ?_ h h' ((List.perm_ext_iff_of_nodup h.nodup h'.nodup).2 hm)
  intro a b _ _ h1 h2
  have := cmpS_neg a b
  omega
def insS (l : List (List Nat × List Nat)) (s : List Nat × List Nat) : List (List Nat × List Nat) :=
  match l with
  | [] => [s]
  | x :: xs => if x = s then x :: xs else if cmpS s x < 0 then s :: x :: xs else x :: insS xs s
theorem mem_insS {l : List (List Nat × List Nat)} {s y : List Nat × List Nat} : y ∈ insS l s ↔ y = s ∨ y ∈ l := by
  induction l with
  | nil => simp [insS]
  | cons x xs ih =>
    unfold insS
    split
    · rename_i e; subst e; simp
    · split
      · simp
      · simp only [List.mem_cons, ih]
        constructor
        · rintro (h | h | h)
          · exact .inr (.inl h)
          · exact .inl h
          · exact .inr (.inr h)
        · rintro (h | h | h)
          · exact .inr (.inl h)
          · exact .inl h
          · exact .inr (.inr h)
theorem up_insS {l : List (List Nat × List Nat)} (s : List Nat × List Nat) (h : Up l) : Up (insS l s) := by
  induction l with
  | nil => exact List.pairwise_singleton _ _
  | cons x xs ih =>
    obtain ⟨h1, h2⟩ := List.pairwise_cons.1 h
    unfold insS
    split
    · exact h
    · rename_i hne
      split
      · rename_i hlt
        refine List.pairwise_cons.2 ⟨?_, h⟩
        intro y hy
        rcases List.mem_cons.1 hy with rfl | hy
        · exact hlt
        · exact cmpS_tr _ _ _ hlt (h1 y hy)
      · rename_i hnl
        refine List.pairwise_cons.2 ⟨?_, ih h2⟩
        intro y hy
        rcases mem_insS.1 hy with rfl | hy
        · have e := cmpS_neg x y
          have : cmpS x y ≠ 0 := fun h0 => hne ((cmpS_eq _ _).1 h0)
          omega
        · exact h1 y hy
def insAll (l : List (List Nat × List Nat)) (ss : List (List Nat × List Nat)) : List (List Nat × List Nat) := ss.foldl insS l
theorem up_insAll : ∀ (ss l : List (List Nat × List Nat)), Up l → Up (insAll l ss)
  | [], _, h => h
  | s :: ss, l, h => up_insAll ss (insS l s) (up_insS s h)
theorem mem_insAll : ∀ (ss l : List (List Nat × List Nat)) (y : List Nat × List Nat), y ∈ insAll l ss ↔ y ∈ l ∨ y ∈ ss
  | [], l, y => by simp [insAll]
  | s :: ss, l, y => by
    have := mem_insAll ss (insS l s) y
    rw [mem_insS] at this
    show y ∈ insAll (insS l s) ss ↔ _
    rw [this, List.mem_cons]
    constructor
    · rintro ((h | h) | h)
      · exact .inr (.inl h)
      · exact .inl h
      · exact .inr (.inr h)
    · rintro (h | h | h)
      · exact .inl (.inr h)
      · exact .inl (.inl h)
      · exact .inr h
theorem mem_cptGo : ∀ (p : List Nat × List Nat) (l : List (List Nat × List Nat)) (y : List Nat × List Nat), y ∈ p :: cptGo (fun a b => decide (a = b)) p l ↔ y ∈ p :: l
  | p, [], y => by simp [cptGo]
  | p, x :: l, y => by
    have := mem_cptGo x l y
    unfold cptGo
    by_cases e : x = p
    · subst e
      simp only [decide_true, if_true]
      rw [this]
      simp
    · simp only [e, decide_false, Bool.false_eq_true, if_false]
      rw [List.mem_cons, this, List.mem_cons (l := x :: l)]
theorem up_cptGo : ∀ (p : List Nat × List Nat) (l : List (List Nat × List Nat)), (p :: l).Pairwise (fun a b => ¬ cmpS b a < 0) → Up (p :: cptGo (fun a b => decide (a = b)) p l)
  | p, [], _ => List.pairwise_singleton _ _
  | p, x :: l, h => by
    obtain ⟨h1, h2⟩ := List.pairwise_cons.1 h
    have := up_cptGo x l h2
    unfold cptGo
    by_cases e : x = p
    · subst e
      simp only [decide_true, if_true]
      exact this
    · simp only [e, decide_false, Bool.false_eq_true, if_false]
      refine List.pairwise_cons.2 ⟨?_, this⟩
      intro y hy
      rw [mem_cptGo] at hy
      have hpx : cmpS p x < 0 := by
        have a := h1 x (by simp)
        have b := cmpS_neg p x
        have c : cmpS p x ≠ 0 := fun h0 => e ((cmpS_eq _ _).1 h0).symm
        omega
      rcases List.mem_cons.1 hy with rfl | hy
      · exact hpx
      · have hxy := (List.pairwise_cons.1 h2).1 y hy
        by_cases e0 : cmpS x y = 0
        · rw [← (cmpS_eq _ _).1 e0]; exact hpx
        · have := cmpS_neg x y
          exact cmpS_tr _ _ _ hpx (by omega)
theorem sortS_ins (l : List (List Nat × List Nat)) : sortS l = insAll [] l := by
  have hp := List.mergeSort_perm l (fun a b => decide (¬ cmpS b a < 0))
  have hs : (l.mergeSort (fun a b => decide (¬ cmpS b a < 0))).Pairwise (fun a b => ¬ cmpS b a < 0) := by
    have := List.pairwise_mergeSort (le := fun a b => decide (¬ cmpS b a < 0)) (fun a b c h1 h2 => decide_eq_true (cmpS_le_tr c b a (of_decide_eq_true h2) (of_decide_eq_true h1))) (fun a b => by
      have := cmpS_neg a b
      simp only [Bool.or_eq_true, decide_eq_true_eq]
      omega) l
    exact this.imp (fun h => of_decide_eq_true h)
  unfold sortS
  generalize l.mergeSort (fun a b => decide (¬ cmpS b a < 0)) = m at hp hs
  have h2 := up_insAll l [] List.Pairwise.nil
  cases m with
  | nil =>
    have : l = [] := hp.symm.eq_nil
    subst this
    rfl
  | cons x m =>
    refine up_uniq (up_cptGo x m hs) h2 ?_
    intro y
    rw [mem_insAll]
    show y ∈ x :: cptGo (fun a b => decide (a = b)) x m ↔ _
    rw [mem_cptGo, hp.mem_iff]
    simp
end Go.Proofs.Ytoijcallajegfaa.M
end
section
/- Cycles: the program and the reference answer alike. No conditions. -/
namespace Go.Proofs.Ytoijcallajegfaa.M
set_option linter.unusedVariables false
set_option linter.unusedSimpArgs false
open Go.RowKit Go.Proofs.YtoijcallajegfaaW.PrintWords Go.Proofs.YtoijcallajegfaaW.PrintLast Go.Proofs.YtoijcallajegfaaW.PrintMore Go.Proofs.Ytoijcallajegfaa.A
def I2 (l : List (List Nat)) : List (List Int) := l.map I
theorem I2_len (l : List (List Nat)) : (I2 l).length = l.length := by simp [I2]
end Go.Proofs.Ytoijcallajegfaa.M
end
section
/- Marks that laws lay and look for. No conditions. -/
namespace Go.Proofs.Ytoijcallajegfaa.M
set_option linter.unusedVariables false
set_option linter.unusedSimpArgs false
open Go.RowKit Go.Proofs.YtoijcallajegfaaW.PrintWords Go.Proofs.YtoijcallajegfaaW.PrintLast Go.Proofs.YtoijcallajegfaaW.PrintMore Go.Proofs.Ytoijcallajegfaa.A
def markL (n : Nat) (a : Int) : List Int := (List.range n).map (fun (i : Nat) => a + (i : Int))
theorem markL_len (n : Nat) (a : Int) : (markL n a).length = n := by simp [markL]
theorem rd_markL {n i : Nat} {a : Int} (h : i < n) : rd (markL n a) (i : Int) = a + (i : Int) := by
  rw [rd_get _ i (by rw [markL_len]; exact h)]
  simp [markL]
theorem w64a (a : Int) (i : Nat) (h0 : 0 ≤ a) (h : a + (i : Int) ≤ 9000000000000000000) : wrap64 (a + (i : Int) + 1) = a + ((i + 1 : Nat) : Int) := by rw [w64 (by omega) (by omega)]; omega
theorem mark_ev (l : List Int) (a : Int) (h0 : 0 ≤ a) (h : a + (l.length : Int) ≤ 9000000000000000000) : Ev (fun k => laws_markIntS.f k l a) (a + (l.length : Int), markL l.length a) := by
  unfold laws_markIntS.f
  have H : ∀ (d i : Nat) (c : List Int), i + d = l.length → c.length = l.length → (∀ j : Nat, j < i → rd c (j : Int) = a + (j : Int)) → Ev (fun k => laws_markIntS.l0 k c (a + (i : Int)) (i : Int)) (a + (l.length : Int), markL l.length a) := by
    intro d
    induction d with
    | zero =>
      intro i c hi hc hx
      refine ev_succ ?_
      have h1 : ¬ ((i : Int) < (c.length : Int)) := by omega
      have e : c = markL l.length a := ext_rd (by rw [markL_len]; exact hc) (fun j hj => by rw [hx j (by omega), rd_markL (by omega)])
      have e2 : i = l.length := by omega
      simp only [laws_markIntS.l0, h1, if_false]
      rw [e, e2]
      exact Ev.now _
    | succ d ih =>
      intro i c hi hc hx
      refine ev_succ ?_
      have h1 : (i : Int) < (c.length : Int) := by omega
      have h2 : (0 : Int) ≤ (i : Int) := by omega
      have h3 := w64s i (by omega)
      have h4 := w64a a i h0 (by omega)
      simp only [laws_markIntS.l0, h1, h2, h3, h4, if_true, Int.toNat_natCast]
      refine ih (i + 1) _ (by omega) (by rw [List.length_set]; exact hc) (fun j hj => ?_)
      rw [rd_set (by omega)]
      by_cases e : i = j
      · subst e
        simp
      · rw [if_neg e]
        exact hx j (by omega)
  have := H l.length 0 l (by omega) rfl (fun j hj => by omega)
  simpa using this
theorem held_ev (n : Nat) (a : Int) (h0 : 0 ≤ a) (h : a + (n : Int) ≤ 9000000000000000000) : Ev (fun k => laws_heldIntS.f k (markL n a) a) (a + (n : Int)) := by
  unfold laws_heldIntS.f
  have H : ∀ d i : Nat, i + d = n → Ev (fun k => laws_heldIntS.l0 k (markL n a) (a + (i : Int)) (i : Int)) (a + (n : Int)) := by
    intro d
    induction d with
    | zero =>
      intro i hi
      obtain rfl : i = n := by omega
      refine ev_succ ?_
      have h1 : ¬ ((i : Int) < ((markL i a).length : Int)) := by rw [markL_len]; omega
      simp only [laws_heldIntS.l0, h1, if_false]
      exact Ev.now _
    | succ d ih =>
      intro i hi
      refine ev_succ ?_
      have h1 : (i : Int) < ((markL n a).length : Int) := by rw [markL_len]; omega
      have h2 : (0 : Int) ≤ (i : Int) := by omega
      have h3 := w64s i (by omega)
      have h4 := w64a a i h0 (by omega)
      have h5 := rd_markL (n := n) (i := i) (a := a) (by omega)
      simp only [laws_heldIntS.l0, h1, h2, h3, h4, h5, if_true]
      exact ih (i + 1) (by omega)
  have := H n 0 (by omega)
  simpa using this
end Go.Proofs.Ytoijcallajegfaa.M
end
section
/- Marks on lists of lists. No conditions. -/
namespace Go.Proofs.Ytoijcallajegfaa.M
set_option linter.unusedVariables false
set_option linter.unusedSimpArgs false
open Go.RowKit Go.Proofs.YtoijcallajegfaaW.PrintWords Go.Proofs.YtoijcallajegfaaW.PrintLast Go.Proofs.YtoijcallajegfaaW.PrintMore Go.Proofs.Ytoijcallajegfaa.A
theorem getD_mid {α : Type} (p : List α) (x : α) (xs : List α) (d : α) : (p ++ x :: xs).getD p.length d = x := by
  rw [List.getD_eq_getElem?_getD, List.getElem?_append_right (Nat.le_refl _)]
  simp
theorem set_mid {α : Type} (p : List α) (x y : α) (xs : List α) : (p ++ x :: xs).set p.length y = p ++ y :: xs := by
  rw [List.set_append_right _ _ (Nat.le_refl _)]
  simp
theorem snoc_app {α : Type} (p : List α) (x : α) (xs : List α) : p ++ x :: xs = (p ++ [x]) ++ xs := by simp
end Go.Proofs.Ytoijcallajegfaa.M
end
section
/- One round about a corner; first places in lists. No conditions. -/
namespace Go.Proofs.Ytoijcallajegfaa.M
set_option linter.unusedVariables false
set_option linter.unusedSimpArgs false
open Go.RowKit Go.Proofs.YtoijcallajegfaaW.PrintWords Go.Proofs.YtoijcallajegfaaW.PrintLast Go.Proofs.YtoijcallajegfaaW.PrintMore Go.Proofs.Ytoijcallajegfaa.A
theorem rdL_mid (a : List (List Nat)) (c : List Nat) (b : List (List Nat)) : rd_L5 (I2 (a ++ c :: b)) (a.length : Int) = I c := by
  unfold rd_L5 I2
  rw [Int.toNat_natCast, List.map_append, List.map_cons, ← List.length_map (f := I)]
  exact getD_mid _ _ _ _
end Go.Proofs.Ytoijcallajegfaa.M
end
section
/- Words of letters: the program and the reference act alike. No conditions. -/
namespace Go.Proofs.Ytoijcallajegfaa.M
set_option linter.unusedVariables false
set_option linter.unusedSimpArgs false
open Go.RowKit Go.Proofs.YtoijcallajegfaaW.PrintWords Go.Proofs.YtoijcallajegfaaW.PrintLast Go.Proofs.YtoijcallajegfaaW.PrintMore Go.Proofs.Ytoijcallajegfaa.A
def lt (c : Int) (s : List Nat × List Nat) : List Nat × List Nat := if c = 84 then (s.1, thn (inv s.1) s.2) else if c = 116 then (s.1, thn s.1 s.2) else if c = 83 then (inv s.2, s.1) else (s.2, inv s.1)
end Go.Proofs.Ytoijcallajegfaa.M
end
section
/- Surfaces that are alike; surfaces that a word keeps. No conditions. -/
namespace Go.Proofs.Ytoijcallajegfaa.M
set_option linter.unusedVariables false
set_option linter.unusedSimpArgs false
open Go.RowKit Go.Proofs.YtoijcallajegfaaW.PrintWords Go.Proofs.YtoijcallajegfaaW.PrintLast Go.Proofs.YtoijcallajegfaaW.PrintMore Go.Proofs.Ytoijcallajegfaa.A
theorem spec_same (a b : List Nat × List Nat) (h1 : a.1.length ≤ 1000000) (h2 : a.2.length ≤ 1000000) : Ev (fun k => spec_SameSurface.f k (I a.1) (I a.2) (I b.1) (I b.2)) (decide (a = b)) := by
  unfold spec_SameSurface.f
  refine Ev.bind (sameList_nat a.1 b.1 (by omega)) ?_
  by_cases h : a.1 = b.1
  · have e : decide (a = b) = decide (a.2 = b.2) := by
      rw [decide_eq_decide, Prod.ext_iff]
      simp [h]
    rw [e]
    simp only [h, decide_true, if_true]
    exact Ev.bind (sameList_nat a.2 b.2 (by omega)) (Ev.now _)
  · have e : decide (a = b) = false := by
      rw [decide_eq_false_iff_not]
      intro e
      exact h (by rw [e])
    rw [e]
    simp only [h, decide_false, Bool.false_eq_true, if_false]
    exact Ev.now _
end Go.Proofs.Ytoijcallajegfaa.M
end
section
/- All surfaces with few squares: the program and the reference list them alike. No conditions. -/
namespace Go.Proofs.Ytoijcallajegfaa.M
set_option linter.unusedVariables false
set_option linter.unusedSimpArgs false
open Go.RowKit Go.Proofs.YtoijcallajegfaaW.PrintWords Go.Proofs.YtoijcallajegfaaW.PrintLast Go.Proofs.YtoijcallajegfaaW.PrintMore Go.Proofs.Ytoijcallajegfaa.A
def permN (n : Nat) : List (List Nat) := (List.range n).foldl (fun out _ => (out.map (fun p => ((List.range n).filter (fun x => decide (x ∉ p))).map (fun x => p ++ [x]))).flatten) [[]]
theorem allPerms_tab : impl_allPerms.f 500 ((1 : Nat) : Int) = some (I2 (permN 1)) ∧ impl_allPerms.f 500 ((2 : Nat) : Int) = some (I2 (permN 2)) ∧ impl_allPerms.f 500 ((3 : Nat) : Int) = some (I2 (permN 3)) ∧ impl_allPerms.f 500 ((4 : Nat) : Int) = some (I2 (permN 4)) := by decide +kernel
theorem l10Perms_tab : spec_l10Perms.f 500 ((1 : Nat) : Int) = some (I2 (permN 1)) ∧ spec_l10Perms.f 500 ((2 : Nat) : Int) = some (I2 (permN 2)) ∧ spec_l10Perms.f 500 ((3 : Nat) : Int) = some (I2 (permN 3)) ∧ spec_l10Perms.f 500 ((4 : Nat) : Int) = some (I2 (permN 4)) := by decide +kernel
theorem four_cases {n : Nat} (h1 : 1 ≤ n) (h4 : n ≤ 4) : n = 1 ∨ n = 2 ∨ n = 3 ∨ n = 4 := by omega
theorem allPerms_ev {n : Nat} (h1 : 1 ≤ n) (h4 : n ≤ 4) : Ev (fun k => impl_allPerms.f k (n : Int)) (I2 (permN n)) := by
  rcases four_cases h1 h4 with rfl | rfl | rfl | rfl
  · exact Ev.of (impl_allPerms.mono _) allPerms_tab.1
  · exact Ev.of (impl_allPerms.mono _) allPerms_tab.2.1
  · exact Ev.of (impl_allPerms.mono _) allPerms_tab.2.2.1
  · exact Ev.of (impl_allPerms.mono _) allPerms_tab.2.2.2
theorem l10Perms_ev {n : Nat} (h1 : 1 ≤ n) (h4 : n ≤ 4) : Ev (fun k => spec_l10Perms.f k (n : Int)) (I2 (permN n)) := by
  rcases four_cases h1 h4 with rfl | rfl | rfl | rfl
  · exact Ev.of (spec_l10Perms.mono _) l10Perms_tab.1
  · exact Ev.of (spec_l10Perms.mono _) l10Perms_tab.2.1
  · exact Ev.of (spec_l10Perms.mono _) l10Perms_tab.2.2.1
  · exact Ev.of (spec_l10Perms.mono _) l10Perms_tab.2.2.2
theorem permN_tab : ∀ n : Fin 5, 1 ≤ n.val → (permN n.val).length ≤ 24 ∧ ∀ p ∈ permN n.val, p.length = n.val := by decide +kernel
theorem permN_len {n : Nat} (h1 : 1 ≤ n) (h4 : n ≤ 4) : (permN n).length ≤ 24 ∧ ∀ p ∈ permN n, p.length = n := permN_tab ⟨n, by omega⟩ h1
def LS (l : List (List Nat × List Nat)) : List S33 := l.map ofN
theorem LS_len (l : List (List Nat × List Nat)) : (LS l).length = l.length := by simp [LS]
theorem LS_app (a b : List (List Nat × List Nat)) : LS (a ++ b) = LS a ++ LS b := by simp [LS]
theorem LS_mid (p : List (List Nat × List Nat)) (x : List Nat × List Nat) (xs : List (List Nat × List Nat)) : rd_T33 (LS (p ++ x :: xs)) (p.length : Int) = ⟨I x.1, I x.2⟩ := by
  unfold rd_T33
  rw [Int.toNat_natCast, LS_app]
  have := getD_mid (LS p) (ofN x) (LS xs) z33
  rw [LS_len] at this
  exact this
theorem insert_ev {n : Nat} (hn : n ≤ 1000000) {s : List Nat × List Nat} (hs : s.1.length = n ∧ s.2.length = n) (l : List (List Nat × List Nat)) (hl : ∀ x ∈ l, x.1.length = n ∧ x.2.length = n) (hlen : l.length ≤ 1000000) : Ev (fun k => spec_l10Insert.f k (LS l) (I s.1) (I s.2)) (LS (insS l s)) := by
  unfold spec_l10Insert.f
  have D : ∀ (rest p o : List (List Nat × List Nat)), p.length + rest.length = l.length → p ++ rest = l → o.length ≤ p.length + 1 → Ev (fun k => spec_l10Insert.l0 k (LS o) true (LS l) ((LS l).length : Int) (p.length : Int) (I s.1) (I s.2)) (LS (o ++ rest)) := by
    intro rest
    induction rest with
    | nil =>
      intro p o hp e ho
      refine ev_succ ?_
      have h1 : ¬ ((p.length : Int) < ((LS l).length : Int)) := by rw [LS_len]; simp at hp; omega
      simp only [spec_l10Insert.l0, h1, if_false, if_true, List.append_nil]
      exact Ev.now _
    | cons x rest ih =>
      intro p o hp e ho
      rw [List.length_cons] at hp
      refine ev_succ ?_
      have h1 : ((p.length : Int) < ((LS l).length : Int)) := by rw [LS_len]; omega
      have h2 : (0 : Int) ≤ (p.length : Int) := by omega
      have h3 := w64s p.length (by omega)
      have h4 : rd_T33 (LS l) (p.length : Int) = ⟨I x.1, I x.2⟩ := by rw [← e]; exact LS_mid p x rest
      have h5 : (LS o).length < 2932031007402 := by rw [LS_len]; omega
      have hx := hl x (by rw [← e]; simp)
      have e2 : LS o ++ [(⟨I x.1, I x.2⟩ : S33)] = LS (o ++ [x]) := by rw [LS_app]; rfl
      have key := ih (p ++ [x]) (o ++ [x]) (by simp; omega) (by rw [← e]; simp) (by simp; omega)
      have e3 : ((p ++ [x]).length : Int) = ((p.length + 1 : Nat) : Int) := by simp
      rw [e3] at key
      have e4 : o ++ [x] ++ rest = o ++ x :: rest := by simp
      rw [e4] at key
      simp only [spec_l10Insert.l0, h1, h2, h4, if_true]
      refine Ev.bind (spec_same x s (by omega) (by omega)) ?_
      by_cases hxs : x = s
      · simp only [hxs, decide_true, if_true, h5, h3]
        rw [hxs] at e2 key
        rw [e2]
        exact key
      · simp only [hxs, decide_false, Bool.false_eq_true, if_false, if_true, h5, h3]
        rw [e2]
        exact key
  have H : ∀ (rest p : List (List Nat × List Nat)), p.length + rest.length = l.length → p ++ rest = l → Ev (fun k => spec_l10Insert.l0 k (LS p) false (LS l) ((LS l).length : Int) (p.length : Int) (I s.1) (I s.2)) (LS (p ++ insS rest s)) := by
    intro rest
    induction rest with
    | nil =>
      intro p hp e
      refine ev_succ ?_
      have h1 : ¬ ((p.length : Int) < ((LS l).length : Int)) := by rw [LS_len]; simp at hp; omega
      have h5 : (LS p).length < 2932031007402 := by rw [LS_len]; simp at hp; omega
      simp only [spec_l10Insert.l0, h1, if_false, Bool.false_eq_true, h5, if_true]
      have e2 : LS p ++ [(⟨I s.1, I s.2⟩ : S33)] = LS (p ++ insS [] s) := by rw [LS_app]; rfl
      rw [e2]
      exact Ev.now _
    | cons x rest ih =>
      intro p hp e
      rw [List.length_cons] at hp
      refine ev_succ ?_
      have h1 : ((p.length : Int) < ((LS l).length : Int)) := by rw [LS_len]; omega
      have h2 : (0 : Int) ≤ (p.length : Int) := by omega
      have h3 := w64s p.length (by omega)
      have h4 : rd_T33 (LS l) (p.length : Int) = ⟨I x.1, I x.2⟩ := by rw [← e]; exact LS_mid p x rest
      have h5 : (LS p).length < 2932031007402 := by rw [LS_len]; omega
      have hx := hl x (by rw [← e]; simp)
      have e2 : LS p ++ [(⟨I x.1, I x.2⟩ : S33)] = LS (p ++ [x]) := by rw [LS_app]; rfl
      have e3 : ((p ++ [x]).length : Int) = ((p.length + 1 : Nat) : Int) := by simp
      have d1 := D rest (p ++ [x]) (p ++ [x]) (by simp; omega) (by rw [← e]; simp) (by simp)
      rw [e3] at d1
      simp only [spec_l10Insert.l0, h1, h2, h4, if_true]
      refine Ev.bind (spec_same x s (by omega) (by omega)) ?_
      by_cases hxs : x = s
      · have e4 : p ++ insS (x :: rest) s = p ++ [x] ++ rest := by
          unfold insS
          rw [if_pos hxs]
          simp
        rw [e4]
        simp only [hxs, decide_true, if_true, h5, h3]
        rw [hxs] at d1 e2
        rw [e2]
        exact d1
      · simp only [hxs, decide_false, Bool.false_eq_true, if_false]
        refine Ev.bind (spec_before s x (by omega) (by omega) (by omega) (by omega)) ?_
        by_cases hb : cmpS s x < 0
        · have h6 : (LS p ++ [(⟨I s.1, I s.2⟩ : S33)]).length < 2932031007402 := by rw [List.length_append, LS_len]; simp; omega
          simp only [hb, decide_true, if_true, h5, Option.bind_some, h6, h3]
          have e4 : p ++ insS (x :: rest) s = p ++ [s] ++ [x] ++ rest := by
            unfold insS
            rw [if_neg hxs, if_pos hb]
            simp
          have e5 : LS p ++ [(⟨I s.1, I s.2⟩ : S33)] ++ [⟨I x.1, I x.2⟩] = LS (p ++ [s] ++ [x]) := by rw [LS_app, LS_app]; rfl
          have d2 := D rest (p ++ [x]) (p ++ [s] ++ [x]) (by simp; omega) (by rw [← e]; simp) (by simp)
          rw [e3] at d2
          rw [e4, e5]
          exact d2
        · simp only [hb, decide_false, Bool.false_eq_true, if_false, h5, if_true, h3]
          have key := ih (p ++ [x]) (by simp; omega) (by rw [← e]; simp)
          rw [e3] at key
          have e4 : p ++ insS (x :: rest) s = p ++ [x] ++ insS rest s := by
            conv => lhs; unfold insS
            rw [if_neg hxs, if_neg hb]
            simp
          rw [e4, e2]
          exact key
  exact H l [] (by simp) rfl
def pr (p q : List Nat) : List (List Nat × List Nat) := if surfB (I p) (I q) = true then [canS p q] else []
theorem pr_len (p q : List Nat) : (pr p q).length ≤ 1 := by unfold pr; split <;> simp
theorem pr_mem {p q : List Nat} {x : List Nat × List Nat} (h : x ∈ pr p q) : x.1.length = p.length ∧ x.2.length = q.length := by
  unfold pr at h
  split at h
  · rw [List.mem_singleton.1 h]; exact canK_len _
  · cases h
theorem pr_no {p q : List Nat} (h : ¬ surfB (I p) (I q) = true) : pr p q = [] := by unfold pr; rw [if_neg h]
theorem pr_yes {p q : List Nat} (h : surfB (I p) (I q) = true) : pr p q = [canS p q] := by unfold pr; rw [if_pos h]
def prs (P : List (List Nat)) (p : List Nat) : List (List Nat × List Nat) := P.flatMap (pr p)
def pairs (P R : List (List Nat)) : List (List Nat × List Nat) := R.flatMap (prs P)
theorem flatM_len {α β : Type} (f : α → List β) (n : Nat) (h : ∀ x, (f x).length ≤ n) : ∀ l : List α, (l.flatMap f).length ≤ l.length * n
  | [] => by simp
  | x :: l => by
    have := flatM_len f n h l
    have := h x
    rw [List.flatMap_cons, List.length_append, List.length_cons, Nat.succ_mul]
    omega
theorem prs_len (P : List (List Nat)) (p : List Nat) : (prs P p).length ≤ P.length := by
  have := flatM_len (pr p) 1 (pr_len p) P
  unfold prs; omega
theorem pairs_len (P R : List (List Nat)) : (pairs P R).length ≤ R.length * P.length := flatM_len (prs P) P.length (prs_len P) R
theorem LS_ok {n : Nat} (hn : n ≤ 1000000) {l : List (List Nat × List Nat)} (h : ∀ x ∈ l, x.1.length = n ∧ x.2.length = n) : ∀ x ∈ LS l, okS x := by
  intro x hx
  obtain ⟨y, hy, rfl⟩ := List.mem_map.1 hx
  have := h y hy
  exact ⟨I_NN (by omega), I_NN (by omega)⟩
theorem LS_toN (l : List (List Nat × List Nat)) : (LS l).map toN = l := by
  unfold LS
  rw [List.map_map]
  conv => rhs; rw [← List.map_id l]
  exact List.map_congr_left (fun x _ => toN_ofN x)
theorem sortSurf_f {n : Nat} (hn : n ≤ 1000000) {l : List (List Nat × List Nat)} (h : ∀ x ∈ l, x.1.length = n ∧ x.2.length = n) (hl : l.length ≤ 1000000) : impl_sortSurfaces.f (LS l) = some (LS (insAll [] l)) := by
  unfold impl_sortSurfaces.f
  rw [if_pos ⟨LS_ok hn h, by rw [LS_len]; omega⟩, LS_toN, sortS_ins]
  rfl
theorem rdL_P {P pre rest : List (List Nat)} {p : List Nat} (e : pre ++ p :: rest = P) : rd_L5 (I2 P) (pre.length : Int) = I p := by rw [← e]; exact rdL_mid pre p rest
def surfN (n : Nat) : List (List Nat × List Nat) := insAll [] (pairs (permN n) (permN n))
theorem impl_with {n : Nat} (h1 : 1 ≤ n) (h4 : n ≤ 4) : Ev (fun k => impl_SurfacesWith.f k (n : Int)) (LS (surfN n)) := by
  obtain ⟨hP, hQ⟩ := permN_len h1 h4
  have hA := allPerms_ev h1 h4
  unfold impl_SurfacesWith.f
  have c1 : ¬ ((n : Int) < 1) := by omega
  have c2 : ¬ ((n : Int) > 4) := by omega
  simp only [c1, c2, if_false, decide_false]
  refine ev_succ ?_
  simp only [impl_SurfacesWith.j0, Bool.false_eq_true, if_false]
  refine Ev.bind hA ?_
  unfold surfN
  generalize permN n = P at hP hQ hA
  have H1 : ∀ (p : List Nat) (x20 : Int) (R : List S33) (rest pre : List (List Nat)) (acc : List (List Nat × List Nat)), pre ++ rest = P → acc.length + rest.length ≤ 100000 →
      Ev (fun k => impl_SurfacesWith.l0 k (n : Int) (LS (acc ++ rest.flatMap (pr p))) (I2 P) ((I2 P).length : Int) (wrap64 (x20 + 1))) R → Ev (fun k => impl_SurfacesWith.l1 k (n : Int) (LS acc) (I p) (I2 P) ((I2 P).length : Int) x20 (I2 P) ((I2 P).length : Int) (pre.length : Int)) R := by
    intro p x20 R rest
    induction rest with
    | nil =>
      intro pre acc e hl hR
      refine ev_succ ?_
      rw [List.append_nil] at e
      have d1 : ¬ ((pre.length : Int) < ((I2 P).length : Int)) := by rw [I2_len, e]; omega
      simp only [impl_SurfacesWith.l1, d1, if_false]
      simpa using hR
    | cons q rest ih =>
      intro pre acc e hl hR
      rw [List.length_cons] at hl
      have hlen : P.length = pre.length + (rest.length + 1) := by rw [← e]; simp
      refine ev_succ ?_
      have d1 : ((pre.length : Int) < ((I2 P).length : Int)) := by rw [I2_len]; omega
      have d2 : (0 : Int) ≤ (pre.length : Int) := by omega
      have d3 := w64s pre.length (by omega)
      have d4 := rdL_P e
      have d5 : (LS acc).length < 2932031007402 := by rw [LS_len]; omega
      have e3 : ((pre ++ [q]).length : Int) = ((pre.length + 1 : Nat) : Int) := by simp
      have hpl := pr_len p q
      have key := ih (pre ++ [q]) (acc ++ pr p q) (by rw [← e]; simp) (by rw [List.length_append]; omega) (by rw [List.append_assoc, ← List.flatMap_cons]; exact hR)
      rw [e3] at key
      simp only [impl_SurfacesWith.l1, d1, d2, d4, if_true]
      by_cases hb : surfB (I p) (I q) = true
      · refine Ev.bind (impl_canon (surfB_I.1 hb)) ?_
        simp only [d5, if_true, d3]
        rw [pr_yes hb, LS_app] at key
        exact key
      · refine Ev.bind (impl_canon_no hb) ?_
        simp only [Bool.false_eq_true, if_false, d3]
        rw [pr_no hb, List.append_nil] at key
        exact key
  have H0 : ∀ (rest pre : List (List Nat)) (acc : List (List Nat × List Nat)), pre ++ rest = P → acc.length + rest.length * 24 ≤ 10000 → (∀ x ∈ acc, x.1.length = n ∧ x.2.length = n) →
      Ev (fun k => impl_SurfacesWith.l0 k (n : Int) (LS acc) (I2 P) ((I2 P).length : Int) (pre.length : Int)) (LS (insAll [] (acc ++ pairs P rest))) := by
    intro rest
    induction rest with
    | nil =>
      intro pre acc e hl hx
      refine ev_succ ?_
      rw [List.append_nil] at e
      have d1 : ¬ ((pre.length : Int) < ((I2 P).length : Int)) := by rw [I2_len, e]; omega
      have d2 := sortSurf_f (by omega) hx (by simp at hl; omega)
      simp only [impl_SurfacesWith.l0, d1, if_false, d2, Option.bind_some]
      have e2 : acc ++ pairs P [] = acc := by simp [pairs]
      rw [e2]
      exact Ev.now _
    | cons p rest ih =>
      intro pre acc e hl hx
      rw [List.length_cons] at hl
      have hlen : P.length = pre.length + (rest.length + 1) := by rw [← e]; simp
      refine ev_succ ?_
      have d1 : ((pre.length : Int) < ((I2 P).length : Int)) := by rw [I2_len]; omega
      have d2 : (0 : Int) ≤ (pre.length : Int) := by omega
      have d3 := w64s pre.length (by omega)
      have d4 := rdL_P e
      simp only [impl_SurfacesWith.l0, d1, d2, d4, if_true]
      refine Ev.bind hA ?_
      have e3 : ((pre ++ [p]).length : Int) = ((pre.length + 1 : Nat) : Int) := by simp
      have hpl := prs_len P p
      have hp : p.length = n := hQ p (by rw [← e]; simp)
      have hx2 : ∀ x ∈ acc ++ prs P p, x.1.length = n ∧ x.2.length = n := by
        intro x hm
        rcases List.mem_append.1 hm with hm | hm
        · exact hx x hm
        · obtain ⟨q, hq, hxq⟩ := List.mem_flatMap.1 hm
          obtain ⟨a1, a2⟩ := pr_mem hxq
          exact ⟨a1.trans hp, a2.trans (hQ q hq)⟩
      have key := ih (pre ++ [p]) (acc ++ prs P p) (by rw [← e]; simp) (by rw [List.length_append]; omega) hx2
      rw [e3, List.append_assoc] at key
      refine H1 p (pre.length : Int) _ P [] acc (by simp) (by omega) ?_
      rw [d3]
      exact key
  have := H0 P [] [] (by simp) (by simp; omega) (by simp)
  rw [List.nil_append] at this
  exact this
theorem insAll_app (l a b : List (List Nat × List Nat)) : insAll l (a ++ b) = insAll (insAll l a) b := List.foldl_append
theorem insS_len (l : List (List Nat × List Nat)) (s : List Nat × List Nat) : (insS l s).length ≤ l.length + 1 := by
  induction l with
  | nil => simp [insS]
  | cons x l ih =>
    unfold insS
    split
    · simp
    · split
      · simp
      · simpa using ih
theorem insAll_len : ∀ (ss l : List (List Nat × List Nat)), (insAll l ss).length ≤ l.length + ss.length
  | [], l => by simp [insAll]
  | s :: ss, l => by
    have := insAll_len ss (insS l s)
    have := insS_len l s
    show (insAll (insS l s) ss).length ≤ _
    rw [List.length_cons]
    omega
theorem spec_in14 (n : Int) : spec_l01In.f n 1 4 = some (decide (1 ≤ n) && decide (n ≤ 4)) := by
  unfold spec_l01In.f
  by_cases h1 : 1 ≤ n <;> by_cases h2 : n ≤ 4 <;> simp [h1, h2]
theorem spec_with {n : Nat} (h1 : 1 ≤ n) (h4 : n ≤ 4) : Ev (fun k => spec_SurfacesWith.f k (n : Int)) (LS (surfN n)) := by
  obtain ⟨hP, hQ⟩ := permN_len h1 h4
  have hA := l10Perms_ev h1 h4
  unfold spec_SurfacesWith.f
  have c0 : (decide ((1 : Int) ≤ (n : Int)) && decide ((n : Int) ≤ 4)) = true := by
    rw [Bool.and_eq_true]
    exact ⟨decide_eq_true (by omega), decide_eq_true (by omega)⟩
  rw [spec_in14, c0]
  simp only [Option.bind_some, if_true]
  refine Ev.bind hA ?_
  unfold surfN
  generalize permN n = P at hP hQ hA
  have H1 : ∀ (p : List Nat), p.length = n → ∀ (x18 : Int) (R : List S33) (rest pre : List (List Nat)) (acc : List (List Nat × List Nat)), pre ++ rest = P → acc.length + rest.length ≤ 100000 → (∀ x ∈ acc, x.1.length = n ∧ x.2.length = n) →
      Ev (fun k => spec_SurfacesWith.l0 k (LS (insAll acc (rest.flatMap (pr p)))) (I2 P) (I2 P) ((I2 P).length : Int) (wrap64 (x18 + 1))) R → Ev (fun k => spec_SurfacesWith.l1 k (LS acc) (I2 P) (I p) (I2 P) ((I2 P).length : Int) x18 (I2 P) ((I2 P).length : Int) (pre.length : Int)) R := by
    intro p hp x18 R rest
    induction rest with
    | nil =>
      intro pre acc e hl hx hR
      refine ev_succ ?_
      rw [List.append_nil] at e
      have d1 : ¬ ((pre.length : Int) < ((I2 P).length : Int)) := by rw [I2_len, e]; omega
      simp only [spec_SurfacesWith.l1, d1, if_false]
      exact hR
    | cons q rest ih =>
      intro pre acc e hl hx hR
      rw [List.length_cons] at hl
      have hlen : P.length = pre.length + (rest.length + 1) := by rw [← e]; simp
      have hq : q.length = n := hQ q (by rw [← e]; simp)
      refine ev_succ ?_
      have d1 : ((pre.length : Int) < ((I2 P).length : Int)) := by rw [I2_len]; omega
      have d2 : (0 : Int) ≤ (pre.length : Int) := by omega
      have d3 := w64s pre.length (by omega)
      have d4 := rdL_P e
      have e3 : ((pre ++ [q]).length : Int) = ((pre.length + 1 : Nat) : Int) := by simp
      have hpl := pr_len p q
      have hil := insAll_len (pr p q) acc
      have hx2 : ∀ x ∈ insAll acc (pr p q), x.1.length = n ∧ x.2.length = n := by
        intro x hm
        rcases (mem_insAll _ _ _).1 hm with hm | hm
        · exact hx x hm
        · obtain ⟨a1, a2⟩ := pr_mem hm
          exact ⟨a1.trans hp, a2.trans hq⟩
      have key := ih (pre ++ [q]) (insAll acc (pr p q)) (by rw [← e]; simp) (by omega) hx2 (by rw [← insAll_app, ← List.flatMap_cons]; exact hR)
      rw [e3] at key
      simp only [spec_SurfacesWith.l1, d1, d2, d4, if_true]
      refine Ev.bind (spec_surf _ _) ?_
      by_cases hb : surfB (I p) (I q) = true
      · simp only [hb, if_true]
        refine Ev.bind (spec_canon (surfB_I.1 hb)) ?_
        have hc : (canS p q).1.length = n ∧ (canS p q).2.length = n := by
          obtain ⟨a1, a2⟩ := canK_len (r := p) (u := q) (p.length - 1)
          exact ⟨a1.trans hp, a2.trans hq⟩
        refine Ev.bind (insert_ev (by omega) hc acc hx (by omega)) ?_
        rw [pr_yes hb] at key
        simp only [d3]
        exact key
      · simp only [hb, Bool.false_eq_true, if_false, d3]
        rw [pr_no hb] at key
        exact key
  have H0 : ∀ (rest pre : List (List Nat)) (acc : List (List Nat × List Nat)), pre ++ rest = P → acc.length + rest.length * 24 ≤ 10000 → (∀ x ∈ acc, x.1.length = n ∧ x.2.length = n) →
      Ev (fun k => spec_SurfacesWith.l0 k (LS acc) (I2 P) (I2 P) ((I2 P).length : Int) (pre.length : Int)) (LS (insAll acc (pairs P rest))) := by
    intro rest
    induction rest with
    | nil =>
      intro pre acc e hl hx
      refine ev_succ ?_
      rw [List.append_nil] at e
      have d1 : ¬ ((pre.length : Int) < ((I2 P).length : Int)) := by rw [I2_len, e]; omega
      simp only [spec_SurfacesWith.l0, d1, if_false]
      exact Ev.now _
    | cons p rest ih =>
      intro pre acc e hl hx
      rw [List.length_cons] at hl
      have hlen : P.length = pre.length + (rest.length + 1) := by rw [← e]; simp
      refine ev_succ ?_
      have d1 : ((pre.length : Int) < ((I2 P).length : Int)) := by rw [I2_len]; omega
      have d2 : (0 : Int) ≤ (pre.length : Int) := by omega
      have d3 := w64s pre.length (by omega)
      have d4 := rdL_P e
      simp only [spec_SurfacesWith.l0, d1, d2, d4, if_true]
      have e3 : ((pre ++ [p]).length : Int) = ((pre.length + 1 : Nat) : Int) := by simp
      have hpl := prs_len P p
      have hil := insAll_len (prs P p) acc
      have hp : p.length = n := hQ p (by rw [← e]; simp)
      have hx2 : ∀ x ∈ insAll acc (prs P p), x.1.length = n ∧ x.2.length = n := by
        intro x hm
        rcases (mem_insAll _ _ _).1 hm with hm | hm
        · exact hx x hm
        · obtain ⟨q, hq, hxq⟩ := List.mem_flatMap.1 hm
          obtain ⟨a1, a2⟩ := pr_mem hxq
          exact ⟨a1.trans hp, a2.trans (hQ q hq)⟩
      have key := ih (pre ++ [p]) (insAll acc (prs P p)) (by rw [← e]; simp) (by omega) hx2
      rw [e3, ← insAll_app] at key
      refine H1 p hp (pre.length : Int) _ P [] acc (by simp) (by omega) hx ?_
      rw [d3]
      exact key
  exact H0 P [] [] (by simp) (by simp; omega) (by simp)
theorem spec_no {n : Int} (h : ¬ (1 ≤ n ∧ n ≤ 4)) : Ev (fun k => spec_SurfacesWith.f k n) ([] : List S33) := by
  unfold spec_SurfacesWith.f
  have c0 : (decide ((1 : Int) ≤ n) && decide (n ≤ 4)) = false := by
    rw [Bool.eq_false_iff]
    intro h0
    rw [Bool.and_eq_true] at h0
    exact h ⟨of_decide_eq_true h0.1, of_decide_eq_true h0.2⟩
  rw [spec_in14, c0]
  simp only [Option.bind_some, Bool.false_eq_true, if_false]
  exact Ev.now _
theorem impl_no {n : Int} (h : ¬ (1 ≤ n ∧ n ≤ 4)) : Ev (fun k => impl_SurfacesWith.f k n) ([] : List S33) := by
  unfold impl_SurfacesWith.f
  by_cases h1 : n < 1
  · simp only [h1, if_true]
    refine ev_succ ?_
    simp only [impl_SurfacesWith.j0, if_true]
    exact Ev.now _
  · have h2 : n > 4 := by omega
    simp only [h1, h2, if_false, decide_true]
    refine ev_succ ?_
    simp only [impl_SurfacesWith.j0, if_true]
    exact Ev.now _
end Go.Proofs.Ytoijcallajegfaa.M
end
section
/- Lists of surfaces: marks. No conditions. -/
namespace Go.Proofs.Ytoijcallajegfaa.M
set_option linter.unusedVariables false
set_option linter.unusedSimpArgs false
open Go.RowKit Go.Proofs.YtoijcallajegfaaW.PrintWords Go.Proofs.YtoijcallajegfaaW.PrintLast Go.Proofs.YtoijcallajegfaaW.PrintMore Go.Proofs.Ytoijcallajegfaa.A
def totF : List S33 → Nat
  | [] => 0
  | x :: xs => x.f0.length + x.f1.length + totF xs
def mkF : List S33 → Int → List S33
  | [], _ => []
  | x :: xs, a => ⟨markL x.f0.length a, markL x.f1.length (a + (x.f0.length : Int))⟩ :: mkF xs (a + (x.f0.length : Int) + (x.f1.length : Int))
theorem markSurfS_ev (xs : List S33) (a : Int) (h0 : 0 ≤ a) (h : a + (totF xs : Int) ≤ 9000000000000000000) (hl : xs.length ≤ 1000000000) : Ev (fun k => laws_markSurfaceS.f k xs a) (a + (totF xs : Int), mkF xs a) := by
  unfold laws_markSurfaceS.f
  have H : ∀ (rest p : List S33) (b : Int), 0 ≤ b → b + (totF rest : Int) ≤ 9000000000000000000 → p.length + rest.length ≤ 1000000000 → Ev (fun k => laws_markSurfaceS.l0 k (p ++ rest) b (p.length : Int)) (b + (totF rest : Int), p ++ mkF rest b) := by
    intro rest
    induction rest with
    | nil =>
      intro p b hb ht hlen
      refine ev_succ ?_
      have h1 : ¬ ((p.length : Int) < ((p ++ ([] : List S33)).length : Int)) := by simp
      simp only [laws_markSurfaceS.l0, h1, if_false]
      have : b + (totF [] : Int) = b := by simp [totF]
      rw [this]
      exact Ev.now _
    | cons x rest ih =>
      intro p b hb ht hlen
      rw [totF] at ht
      have g1 : 0 ≤ b + (x.f0.length : Int) := by omega
      have g2 : 0 ≤ b + (x.f0.length : Int) + (x.f1.length : Int) := by omega
      have g3 : b + (x.f0.length : Int) + (x.f1.length : Int) + (totF rest : Int) ≤ 9000000000000000000 := by omega
      have g4 : b + (x.f0.length : Int) ≤ 9000000000000000000 := by omega
      have g5 : b + (x.f0.length : Int) + (x.f1.length : Int) ≤ 9000000000000000000 := by omega
      have g6 : p.length + 1 + rest.length ≤ 1000000000 := by rw [List.length_cons] at hlen; omega
      have g7 : b + ((totF (x :: rest) : Nat) : Int) = b + (x.f0.length : Int) + (x.f1.length : Int) + (totF rest : Int) := by rw [totF]; omega
      have g8 : ¬ (b + (x.f0.length : Int) < 0) := by omega
      have g9 : ¬ (b + (x.f0.length : Int) + (x.f1.length : Int) < 0) := by omega
      refine ev_succ ?_
      have h1 : (p.length : Int) < ((p ++ x :: rest).length : Int) := by simp; omega
      have h2 : (0 : Int) ≤ (p.length : Int) := by omega
      have h3 := w64s p.length (by omega)
      have h4 : rd_T33 (p ++ x :: rest) (p.length : Int) = x := by unfold rd_T33; rw [Int.toNat_natCast]; exact getD_mid p x rest _
      simp only [laws_markSurfaceS.l0, h1, h2, h4, if_true, Int.toNat_natCast, set_mid]
      refine Ev.bind (mark_ev x.f0 b hb g4) (Ev.bind (mark_ev x.f1 (b + (x.f0.length : Int)) g1 g5) ?_)
      simp only [h3]
      have := ih (p ++ [⟨markL x.f0.length b, markL x.f1.length (b + (x.f0.length : Int))⟩]) (b + (x.f0.length : Int) + (x.f1.length : Int)) g2 g3 (by rw [List.length_append, List.length_singleton]; exact g6)
      rw [snoc_app]
      have e : ((p ++ [(⟨markL x.f0.length b, markL x.f1.length (b + (x.f0.length : Int))⟩ : S33)]).length : Int) = ((p.length + 1 : Nat) : Int) := by simp
      rw [e] at this
      rw [g7]
      have e3 : p ++ mkF (x :: rest) b = p ++ [(⟨markL x.f0.length b, markL x.f1.length (b + (x.f0.length : Int))⟩ : S33)] ++ mkF rest (b + (x.f0.length : Int) + (x.f1.length : Int)) := by simp [mkF]
      rw [e3]
      exact this
  exact H xs [] a h0 h (by simpa using hl)
theorem heldSurfS_ev (xs : List S33) (a : Int) (h0 : 0 ≤ a) (h : a + (totF xs : Int) ≤ 9000000000000000000) (hl : xs.length ≤ 1000000000) : Ev (fun k => laws_heldSurfaceS.f k (mkF xs a) a) (a + (totF xs : Int)) := by
  unfold laws_heldSurfaceS.f
  have H : ∀ (rest p : List S33) (b : Int), 0 ≤ b → b + (totF rest : Int) ≤ 9000000000000000000 → p.length + rest.length ≤ 1000000000 → Ev (fun k => laws_heldSurfaceS.l0 k (p ++ mkF rest b) b (p.length : Int)) (b + (totF rest : Int)) := by
    intro rest
    induction rest with
    | nil =>
      intro p b hb ht hlen
      refine ev_succ ?_
      have h1 : ¬ ((p.length : Int) < ((p ++ mkF [] b).length : Int)) := by simp [mkF]
      simp only [laws_heldSurfaceS.l0, h1, if_false]
      have : b + (totF [] : Int) = b := by simp [totF]
      rw [this]
      exact Ev.now _
    | cons x rest ih =>
      intro p b hb ht hlen
      rw [totF] at ht
      have g1 : 0 ≤ b + (x.f0.length : Int) := by omega
      have g2 : 0 ≤ b + (x.f0.length : Int) + (x.f1.length : Int) := by omega
      have g3 : b + (x.f0.length : Int) + (x.f1.length : Int) + (totF rest : Int) ≤ 9000000000000000000 := by omega
      have g4 : b + (x.f0.length : Int) ≤ 9000000000000000000 := by omega
      have g5 : b + (x.f0.length : Int) + (x.f1.length : Int) ≤ 9000000000000000000 := by omega
      have g6 : p.length + 1 + rest.length ≤ 1000000000 := by rw [List.length_cons] at hlen; omega
      have g7 : b + ((totF (x :: rest) : Nat) : Int) = b + (x.f0.length : Int) + (x.f1.length : Int) + (totF rest : Int) := by rw [totF]; omega
      have g8 : ¬ (b + (x.f0.length : Int) < 0) := by omega
      have g9 : ¬ (b + (x.f0.length : Int) + (x.f1.length : Int) < 0) := by omega
      refine ev_succ ?_
      have h1 : (p.length : Int) < ((p ++ mkF (x :: rest) b).length : Int) := by simp [mkF]; omega
      have h2 : (0 : Int) ≤ (p.length : Int) := by omega
      have h3 := w64s p.length (by omega)
      have h4 : rd_T33 (p ++ mkF (x :: rest) b) (p.length : Int) = ⟨markL x.f0.length b, markL x.f1.length (b + (x.f0.length : Int))⟩ := by unfold rd_T33; rw [Int.toNat_natCast]; exact getD_mid p _ _ _
      simp only [laws_heldSurfaceS.l0, h1, h2, h4, if_true]
      refine Ev.bind (held_ev x.f0.length b hb g4) ?_
      simp only [g8, if_false]
      refine Ev.bind (held_ev x.f1.length (b + (x.f0.length : Int)) g1 g5) ?_
      simp only [h3, g9, if_false]
      have := ih (p ++ [⟨markL x.f0.length b, markL x.f1.length (b + (x.f0.length : Int))⟩]) (b + (x.f0.length : Int) + (x.f1.length : Int)) g2 g3 (by rw [List.length_append, List.length_singleton]; exact g6)
      have e : ((p ++ [(⟨markL x.f0.length b, markL x.f1.length (b + (x.f0.length : Int))⟩ : S33)]).length : Int) = ((p.length + 1 : Nat) : Int) := by simp
      rw [e] at this
      rw [g7]
      have e3 : p ++ mkF (x :: rest) b = p ++ [(⟨markL x.f0.length b, markL x.f1.length (b + (x.f0.length : Int))⟩ : S33)] ++ mkF rest (b + (x.f0.length : Int) + (x.f1.length : Int)) := by simp [mkF]
      rw [e3]
      exact this
  exact H xs [] a h0 h (by simpa using hl)
theorem eqSurfS_same (xs : List S33) (hl : xs.length ≤ 1000000000) (h : ∀ x ∈ xs, x.f0.length ≤ 1000000000 ∧ x.f1.length ≤ 1000000000) : Ev (fun k => laws_eqSurfaceS.f k xs xs) true := by
  unfold laws_eqSurfaceS.f
  simp only [if_true]
  have H : ∀ (rest p : List S33), p.length + rest.length ≤ 1000000000 → (∀ x ∈ rest, x.f0.length ≤ 1000000000 ∧ x.f1.length ≤ 1000000000) → Ev (fun k => laws_eqSurfaceS.l0 k (p ++ rest) (p ++ rest) (p.length : Int)) true := by
    intro rest
    induction rest with
    | nil =>
      intro p hlen hx
      refine ev_succ ?_
      have h1 : ¬ ((p.length : Int) < ((p ++ ([] : List S33)).length : Int)) := by simp
      simp only [laws_eqSurfaceS.l0, h1, if_false]
      exact Ev.now _
    | cons x rest ih =>
      intro p hlen hx
      refine ev_succ ?_
      have h1 : (p.length : Int) < ((p ++ x :: rest).length : Int) := by simp; omega
      have h2 : (0 : Int) ≤ (p.length : Int) := by omega
      have h3 := w64s p.length (by omega)
      have h4 : rd_T33 (p ++ x :: rest) (p.length : Int) = x := by unfold rd_T33; rw [Int.toNat_natCast]; exact getD_mid p _ _ _
      have h5 := hx x (by simp)
      simp only [laws_eqSurfaceS.l0, h1, h2, h4, if_true]
      refine Ev.bind (eqSurf_same x.f0 x.f1 (by omega) (by omega)) ?_
      simp only [if_true, h3]
      rw [snoc_app]
      have := ih (p ++ [x]) (by simp at hlen ⊢; omega) (fun y hy => hx y (by simp [hy]))
      have e : ((p ++ [x]).length : Int) = ((p.length + 1 : Nat) : Int) := by simp
      rw [e] at this
      exact this
  exact H xs [] (by simpa using hl) h
end Go.Proofs.Ytoijcallajegfaa.M
end
section
/- The law of all surfaces with few squares answers true. No conditions. -/
namespace Go.Proofs.Ytoijcallajegfaa.Pure
set_option linter.unusedVariables false
set_option linter.unusedSimpArgs false
set_option linter.unusedVariables false
set_option linter.unusedSimpArgs false
open Go.RowKit Go.Proofs.YtoijcallajegfaaW.PrintWords Go.Proofs.YtoijcallajegfaaW.PrintLast Go.Proofs.YtoijcallajegfaaW.PrintMore Go.Proofs.Ytoijcallajegfaa.A Go.Proofs.Ytoijcallajegfaa.M
theorem FnExactSurfacesWith (n : Int) (hn : (Lit.int .i64 n).wf = true) : ∃ k, laws_FnExactSurfacesWith.F k n := by
  unfold laws_FnExactSurfacesWith.F
  have key : ∃ l : List S33, l.length ≤ 1000 ∧ (∀ x ∈ l, x.f0.length ≤ 4 ∧ x.f1.length ≤ 4) ∧ Ev (fun k => spec_SurfacesWith.f k n) l ∧ Ev (fun k => impl_SurfacesWith.f k n) l := by
    by_cases h : 1 ≤ n ∧ n ≤ 4
    · obtain ⟨m, rfl⟩ : ∃ m : Nat, n = (m : Int) := ⟨n.toNat, by omega⟩
      have h1 : 1 ≤ m := by omega
      have h4 : m ≤ 4 := by omega
      obtain ⟨hP, hQ⟩ := permN_len h1 h4
      refine ⟨_, ?_, ?_, spec_with h1 h4, impl_with h1 h4⟩
      · rw [LS_len]
        unfold surfN
        have a := insAll_len (pairs (permN m) (permN m)) []
        have b := pairs_len (permN m) (permN m)
        have c : (permN m).length * (permN m).length ≤ 24 * 24 := Nat.mul_le_mul hP hP
        rw [List.length_nil] at a
        omega
      · intro x hx
        obtain ⟨y, hy, rfl⟩ := List.mem_map.1 hx
        unfold surfN at hy
        rcases (mem_insAll _ _ _).1 hy with hy | hy
        · cases hy
        · obtain ⟨p, hp, hy⟩ := List.mem_flatMap.1 hy
          obtain ⟨q, hq, hy⟩ := List.mem_flatMap.1 hy
          obtain ⟨a1, a2⟩ := pr_mem hy
          have b1 := hQ p hp
          have b2 := hQ q hq
          show (I y.1).length ≤ 4 ∧ (I y.2).length ≤ 4
          rw [I_len, I_len]
          omega
    · exact ⟨[], by simp, by simp, spec_no h, impl_no h⟩
  obtain ⟨l, hl, hx, ⟨K1, e1⟩, ⟨K2, e2⟩⟩ := key
  obtain ⟨K5, e5⟩ := eqSurfS_same l (by omega) (fun x h => by have := hx x h; omega)
  have ht : ∀ l : List S33, (∀ x ∈ l, x.f0.length ≤ 4 ∧ x.f1.length ≤ 4) → totF l ≤ l.length * 8 := by
    intro l
    induction l with
    | nil => intro _; exact Nat.le_refl 0
    | cons x l ih =>
      intro h
      have a := ih (fun y hy => h y (List.mem_cons_of_mem _ hy))
      have b := h x (by simp)
      rw [totF, List.length_cons]
      omega
  have q0 := ht l hx
  have q1 : (1 : Int) + (totF l : Int) ≤ 9000000000000000000 := by omega
  obtain ⟨K7, e7⟩ := markSurfS_ev l 1 (by omega) q1 (by omega)
  obtain ⟨K8, e8⟩ := heldSurfS_ev l 1 (by omega) q1 (by omega)
  exact ⟨K1 + K2 + K5 + K7 + K8, l, _, _, e1 _ (by omega), e2 _ (by omega), e5 _ (by omega), e7 _ (by omega), e8 _ (by omega), decide_eq_false (by omega)⟩
end Go.Proofs.Ytoijcallajegfaa.Pure
end
