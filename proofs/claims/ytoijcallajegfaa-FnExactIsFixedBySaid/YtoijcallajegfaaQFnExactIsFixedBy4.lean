/- Lemmas for the row FnExactIsFixedBy: the program's functions told as plain functions, and plain mathematics. No conditions. -/
import Derived.Test.YtoijcallajegfaaQFnExactIsFixedBy3
section
namespace Go.Proofs.Ytoijcallajegfaa.A
open Go.RowKit Go.Proofs.YtoijcallajegfaaW.PrintWords Go.Proofs.YtoijcallajegfaaW.PrintLast Go.Proofs.YtoijcallajegfaaW.PrintMore
attribute [local go_sem] max2_int min2_int max_two min_two max_three min_three max_four min_four
set_option linter.unusedVariables false
set_option linter.unusedSimpArgs false
def impl_AreIsomorphic.f (k : Nat) (l0_0 : List Int) (l0_1 : List Int) (l1_0 : List Int) (l1_1 : List Int) : Option (Bool) := (impl_CanonOf.f k l0_0 l0_1).bind fun bt694 => ((impl_CanonOf.f k l1_0 l1_1).bind fun bt702 => (if bt694.2.2 = true then (if bt702.2.2 = true then ((impl_SameSurface.f k bt694.1 bt694.2.1 bt702.1 bt702.2.1).bind fun t710 => (some t710)) else (some false)) else (some false)))
theorem impl_AreIsomorphic.mono : ∀ a0 a1 a2 a3 k, LeO (impl_AreIsomorphic.f k a0 a1 a2 a3) (impl_AreIsomorphic.f (k + 1) a0 a1 a2 a3) := by
  intro a0 a1 a2 a3 k
  unfold impl_AreIsomorphic.f
  repeat' first|exact impl_CanonOf.mono _ _ _|exact impl_SameSurface.mono _ _ _ _ _|exact lo_|refine LeO.ite ?_ ?_|refine LeO.bind ?_ (fun _ => ?_)
set_option maxHeartbeats 8000000 in
set_option maxRecDepth 100000 in
theorem impl_AreIsomorphic.calls (k : Nat) (A0_0 : Option Addr) (c0_0 : Nat) (l0_0 : List Int) (A0_1 : Option Addr) (c0_1 : Nat) (l0_1 : List Int) (A1_0 : Option Addr) (c1_0 : Nat) (l1_0 : List Int) (A1_1 : Option Addr) (c1_1 : Nat) (l1_1 : List Int) (r : Bool) (w : World) (hr0_0 : Kd.C (Kd.int .i64) w A0_0 l0_0.length l0_0) (hc0_0 : l0_0.length ≤ c0_0) (hr0_1 : Kd.C (Kd.int .i64) w A0_1 l0_1.length l0_1) (hc0_1 : l0_1.length ≤ c0_1) (hr1_0 : Kd.C (Kd.int .i64) w A1_0 l1_0.length l1_0) (hc1_0 : l1_0.length ≤ c1_0) (hr1_1 : Kd.C (Kd.int .i64) w A1_1 l1_1.length l1_1) (hc1_1 : l1_1.length ≤ c1_1) (h : impl_AreIsomorphic.f k l0_0 l0_1 l1_0 l1_1 = some r) :
    Calls Try.prog 81 #[.agg #[.slice A0_0 l0_0.length c0_0, .slice A0_1 l0_1.length c0_1], .agg #[.slice A1_0 l1_0.length c1_0, .slice A1_1 l1_1.length c1_1]] w fun e w' => e = .returned (.bool r) ∧ Below w.heap.size w w' := by
  have hu33 := Try.underlying33
  have HR0_0 := Aside0.mk hr0_0
  have HC0_0 := Aside0.mk hc0_0
  clear hr0_0 hc0_0
  have HR0_1 := Aside0.mk hr0_1
  have HC0_1 := Aside0.mk hc0_1
  clear hr0_1 hc0_1
  have HR1_0 := Aside0.mk hr1_0
  have HC1_0 := Aside0.mk hc1_0
  clear hr1_0 hc1_0
  have HR1_1 := Aside0.mk hr1_1
  have HC1_1 := Aside0.mk hc1_1
  clear hr1_1 hc1_1
  have HB := Aside0.mk (Below.refl w.heap.size w)
  have H := h
  unfold impl_AreIsomorphic.f at H
  clear h
  obtain ⟨⟨t694, t697, t700⟩, A3, H⟩ := bi_ H
  try dsimp only at H
  obtain ⟨⟨t702, t705, t708⟩, A4, H⟩ := bi_ H
  try dsimp only at H
  by_cases c5 : t700 = true
  · subst c5
    rw [if_pos rfl] at H
    by_cases c6 : t708 = true
    · subst c6
      rw [if_pos rfl] at H
      obtain ⟨t710, A7, H⟩ := bi_ H
      obtain rfl := Option.some.inj H
      go_enter Try.func81, Try.ntmps81
      go_wp2_with (first | ((with_reducible refine gate_dst (N := 2) rfl ?_); refine bx_ 2 #[.slice A0_0 l0_0.length c0_0, .slice A0_1 l0_1.length c0_1] 33 ?_; intro gb692 hg w8 hbox hb; have BK692 := Aside0.mk hbox; have GW692 := gw_ w hg; have GE692 := GW692; replace HB := b1_ hb; clear hb hbox hg) | ((with_reducible refine gate_dst (N := 3) rfl ?_); refine bx_ 3 #[.slice A1_0 l1_0.length c1_0, .slice A1_1 l1_1.length c1_1] 33 ?_; intro gb693 hg w9 hbox hb; have BK693 := Aside0.mk hbox; have GW693 := gw_ w hg; have GE693 := GW693; replace HB := b1_ hb; have NB692_693 := gN_ BK692 hg; have NB693_692 := gP_ BK692 hg; replace BK692 := bb_ BK692 hb; clear hb hbox hg; have hnb10 := NB692_693.out; have hnc10 := NB693_692.out; obtain ⟨hcz11_0, hcz11_1, hfz11_0, hfz11_1⟩ := c2_ BK692) | ((with_reducible refine gate_callee (f := 17) rfl ?_); refine gL_ (some 11) Try.func17 #[.agg #[.slice A0_0 l0_0.length c0_0, .slice A0_1 l0_1.length c0_1]] rfl qa_ ?_; (with_reducible refine (impl_CanonOf.calls k _ _ l0_0 _ _ l0_1 t694 t697 true _ (cb_ HR0_0) HC0_0.out (cb_ HR0_1) HC0_1.out A3.out).mono ?_); rintro e w12 ⟨v695, v698, rfl, ho0, ho1, hb⟩; refine ⟨_, rfl, ?_⟩; have HO696 := Aside0.mk (Kd.V_lower (Kd.V_mono (ok' := fun k_ => k_ ≠ gb692 ∧ k_ ≠ gb693) ho0 (fun k_ hk_ => ⟨(Kd.freshB (kk_ BK692) k_ hk_), (Kd.freshB (kk_ BK693) k_ hk_)⟩)) (below_size hB_)); have HO699 := Aside0.mk (Kd.V_lower (Kd.V_mono (ok' := fun k_ => k_ ≠ gb692 ∧ k_ ≠ gb693) ho1 (fun k_ hk_ => ⟨(Kd.freshB (kk_ BK692) k_ hk_), (Kd.freshB (kk_ BK693) k_ hk_)⟩)) (below_size hB_)); replace BK692 := bb_ BK692 hb; replace BK693 := bb_ BK693 hb; replace HB := b1_ hb; clear hb ho0 ho1) | ((with_reducible refine gate_dst (N := 5) rfl ?_); refine bx_ 5 #[.slice none 0 0, .slice none 0 0] 33 ?_; intro gb701 hg w13 hbox hb; replace HO696 := Aside0.mk (Kd.V_below (Kd.V_elderB (by (with_reducible repeat (first | apply Kd.V_alloc | apply Kd.V_drewN | apply Kd.V_drew)); exact HO696.out) gb701 (Nat.le_of_eq hg.symm)) hb); replace HO699 := Aside0.mk (Kd.V_below (Kd.V_elderB (by (with_reducible repeat (first | apply Kd.V_alloc | apply Kd.V_drewN | apply Kd.V_drew)); exact HO699.out) gb701 (Nat.le_of_eq hg.symm)) hb); have BK701 := Aside0.mk hbox; have GW701 := gw_ w hg; have GE701 := GW701; replace HB := b1_ hb; have NB692_701 := gN_ BK692 hg; have NB701_692 := gP_ BK692 hg; replace BK692 := bb_ BK692 hb; have NB693_701 := gN_ BK693 hg; have NB701_693 := gP_ BK693 hg; replace BK693 := bb_ BK693 hb; clear hb hbox hg; obtain ⟨Ao14, co14, eo14⟩ := Kd.V_slice HO696.out; subst eo14; have hnb15 := NB701_692.out; have hnc15 := NB692_701.out; have hnb16 := NB701_693.out; have hnc16 := NB693_701.out; obtain ⟨hcz17_0, hcz17_1, hfz17_0, hfz17_1⟩ := c2_ BK701; obtain ⟨Ao18, co18, eo18⟩ := Kd.V_slice HO699.out; subst eo18; obtain ⟨hcz19_0, hcz19_1, hfz19_0, hfz19_1⟩ := c2_ BK693) | ((with_reducible refine gate_callee (f := 17) rfl ?_); refine gL_ (some 16) Try.func17 #[.agg #[.slice A1_0 l1_0.length c1_0, .slice A1_1 l1_1.length c1_1]] rfl qa_ ?_; (with_reducible refine (impl_CanonOf.calls k _ _ l1_0 _ _ l1_1 t702 t705 true _ (Kd.C_below HR1_0.out hB_) HC1_0.out (Kd.C_below HR1_1.out hB_) HC1_1.out A4.out).mono ?_); rintro e w20 ⟨v703, v706, rfl, ho0, ho1, hb⟩; refine ⟨_, rfl, ?_⟩; replace HO696 := Aside0.mk (Kd.V_below (by (with_reducible repeat (first | apply Kd.V_alloc | apply Kd.V_drewN | apply Kd.V_drew)); exact (Kd.V_mono (Kd.V_far (p := ⟨gb701, 1, none⟩) (Kd.V_far (p := ⟨gb701, 0, none⟩) (Kd.V_mono HO696.out (fun k_ hk => (⟨hk, hk.2⟩ : _ ∧ k_ ≠ gb701))) (fun _ hk => hk.2) (.slice Ao14 t694.length co14)) (fun _ hk => hk.2) (.slice Ao18 t697.length co18)) (fun _ h_ => h_.1))) hb); replace HO699 := Aside0.mk (Kd.V_below (by (with_reducible repeat (first | apply Kd.V_alloc | apply Kd.V_drewN | apply Kd.V_drew)); exact (Kd.V_mono (Kd.V_far (p := ⟨gb701, 1, none⟩) (Kd.V_far (p := ⟨gb701, 0, none⟩) (Kd.V_mono HO699.out (fun k_ hk => (⟨hk, hk.2⟩ : _ ∧ k_ ≠ gb701))) (fun _ hk => hk.2) (.slice Ao14 t694.length co14)) (fun _ hk => hk.2) (.slice Ao18 t697.length co18)) (fun _ h_ => h_.1))) hb); have HO704 := Aside0.mk (Kd.V_lower (Kd.V_mono (ok' := fun k_ => k_ ≠ gb692 ∧ k_ ≠ gb693 ∧ k_ ≠ gb701) ho0 (fun k_ hk_ => ⟨(Kd.freshB (g := gb692) (o := .cells #[.slice A0_0 l0_0.length c0_0, .slice A0_1 l0_1.length c0_1] 33 (0, 0)) (by (with_reducible repeat (first | refine blk_drewN ?_ _ | refine blk_drew ?_ | refine blk_alloc ?_ _)); refine blk_far ?_ NB692_701.out _; (with_reducible repeat (first | refine blk_drewN ?_ _ | refine blk_drew ?_ | refine blk_alloc ?_ _)); refine blk_far ?_ NB692_701.out _; (with_reducible repeat (first | refine blk_drewN ?_ _ | refine blk_drew ?_ | refine blk_alloc ?_ _)); exact BK692.out) k_ hk_), (Kd.freshB (g := gb693) (o := .cells #[.slice A1_0 l1_0.length c1_0, .slice A1_1 l1_1.length c1_1] 33 (0, 0)) (by (with_reducible repeat (first | refine blk_drewN ?_ _ | refine blk_drew ?_ | refine blk_alloc ?_ _)); refine blk_far ?_ NB693_701.out _; (with_reducible repeat (first | refine blk_drewN ?_ _ | refine blk_drew ?_ | refine blk_alloc ?_ _)); refine blk_far ?_ NB693_701.out _; (with_reducible repeat (first | refine blk_drewN ?_ _ | refine blk_drew ?_ | refine blk_alloc ?_ _)); exact BK693.out) k_ hk_), (Kd.freshB (g := gb701) (o := .cells #[.slice Ao14 t694.length co14, .slice Ao18 t697.length co18] 33 (0, 0)) qp_ k_ hk_)⟩)) (below_size hB_)); have HO707 := Aside0.mk (Kd.V_lower (Kd.V_mono (ok' := fun k_ => k_ ≠ gb692 ∧ k_ ≠ gb693 ∧ k_ ≠ gb701) ho1 (fun k_ hk_ => ⟨(Kd.freshB (g := gb692) (o := .cells #[.slice A0_0 l0_0.length c0_0, .slice A0_1 l0_1.length c0_1] 33 (0, 0)) (by (with_reducible repeat (first | refine blk_drewN ?_ _ | refine blk_drew ?_ | refine blk_alloc ?_ _)); refine blk_far ?_ NB692_701.out _; (with_reducible repeat (first | refine blk_drewN ?_ _ | refine blk_drew ?_ | refine blk_alloc ?_ _)); refine blk_far ?_ NB692_701.out _; (with_reducible repeat (first | refine blk_drewN ?_ _ | refine blk_drew ?_ | refine blk_alloc ?_ _)); exact BK692.out) k_ hk_), (Kd.freshB (g := gb693) (o := .cells #[.slice A1_0 l1_0.length c1_0, .slice A1_1 l1_1.length c1_1] 33 (0, 0)) (by (with_reducible repeat (first | refine blk_drewN ?_ _ | refine blk_drew ?_ | refine blk_alloc ?_ _)); refine blk_far ?_ NB693_701.out _; (with_reducible repeat (first | refine blk_drewN ?_ _ | refine blk_drew ?_ | refine blk_alloc ?_ _)); refine blk_far ?_ NB693_701.out _; (with_reducible repeat (first | refine blk_drewN ?_ _ | refine blk_drew ?_ | refine blk_alloc ?_ _)); exact BK693.out) k_ hk_), (Kd.freshB (g := gb701) (o := .cells #[.slice Ao14 t694.length co14, .slice Ao18 t697.length co18] 33 (0, 0)) qp_ k_ hk_)⟩)) (below_size hB_)); replace BK692 := Aside0.mk (blk_below (g := gb692) (o := .cells #[.slice A0_0 l0_0.length c0_0, .slice A0_1 l0_1.length c0_1] 33 (0, 0)) (by (with_reducible repeat (first | refine blk_drewN ?_ _ | refine blk_drew ?_ | refine blk_alloc ?_ _)); refine blk_far ?_ NB692_701.out _; (with_reducible repeat (first | refine blk_drewN ?_ _ | refine blk_drew ?_ | refine blk_alloc ?_ _)); refine blk_far ?_ NB692_701.out _; (with_reducible repeat (first | refine blk_drewN ?_ _ | refine blk_drew ?_ | refine blk_alloc ?_ _)); exact BK692.out) hb); replace BK693 := Aside0.mk (blk_below (g := gb693) (o := .cells #[.slice A1_0 l1_0.length c1_0, .slice A1_1 l1_1.length c1_1] 33 (0, 0)) (by (with_reducible repeat (first | refine blk_drewN ?_ _ | refine blk_drew ?_ | refine blk_alloc ?_ _)); refine blk_far ?_ NB693_701.out _; (with_reducible repeat (first | refine blk_drewN ?_ _ | refine blk_drew ?_ | refine blk_alloc ?_ _)); refine blk_far ?_ NB693_701.out _; (with_reducible repeat (first | refine blk_drewN ?_ _ | refine blk_drew ?_ | refine blk_alloc ?_ _)); exact BK693.out) hb); replace BK701 := Aside0.mk (blk_below (g := gb701) (o := .cells #[.slice Ao14 t694.length co14, .slice Ao18 t697.length co18] 33 (0, 0)) qp_ hb); replace HB := b1_ hb; clear hb ho0 ho1) | ((with_reducible refine gate_dst (N := 7) rfl ?_); refine bx_ 7 #[.slice none 0 0, .slice none 0 0] 33 ?_; intro gb709 hg w21 hbox hb; replace HO696 := Aside0.mk (Kd.V_below (Kd.V_elderB (by (with_reducible repeat (first | apply Kd.V_alloc | apply Kd.V_drewN | apply Kd.V_drew)); exact HO696.out) gb709 (Nat.le_of_eq hg.symm)) hb); replace HO699 := Aside0.mk (Kd.V_below (Kd.V_elderB (by (with_reducible repeat (first | apply Kd.V_alloc | apply Kd.V_drewN | apply Kd.V_drew)); exact HO699.out) gb709 (Nat.le_of_eq hg.symm)) hb); replace HO704 := Aside0.mk (Kd.V_below (Kd.V_elderB (by (with_reducible repeat (first | apply Kd.V_alloc | apply Kd.V_drewN | apply Kd.V_drew)); exact HO704.out) gb709 (Nat.le_of_eq hg.symm)) hb); replace HO707 := Aside0.mk (Kd.V_below (Kd.V_elderB (by (with_reducible repeat (first | apply Kd.V_alloc | apply Kd.V_drewN | apply Kd.V_drew)); exact HO707.out) gb709 (Nat.le_of_eq hg.symm)) hb); have BK709 := Aside0.mk hbox; have GW709 := gw_ w hg; have GE709 := GW709; replace HB := b1_ hb; have NB692_709 := gN_ BK692 hg; have NB709_692 := gP_ BK692 hg; replace BK692 := bb_ BK692 hb; have NB693_709 := gN_ BK693 hg; have NB709_693 := gP_ BK693 hg; replace BK693 := bb_ BK693 hb; have NB701_709 := gN_ BK701 hg; have NB709_701 := gP_ BK701 hg; replace BK701 := bb_ BK701 hb; clear hb hbox hg; obtain ⟨Ao22, co22, eo22⟩ := Kd.V_slice HO704.out; subst eo22; have hnb23 := NB709_692.out; have hnc23 := NB692_709.out; have hnb24 := NB709_693.out; have hnc24 := NB693_709.out; have hnb25 := NB709_701.out; have hnc25 := NB701_709.out; obtain ⟨hcz26_0, hcz26_1, hfz26_0, hfz26_1⟩ := c2_ BK709; obtain ⟨Ao27, co27, eo27⟩ := Kd.V_slice HO707.out; subst eo27; obtain ⟨hcz28_0, hcz28_1, hfz28_0, hfz28_1⟩ := c2_ BK701) | (go_at_call 18; (with_reducible refine (impl_SameSurface.calls k _ _ t694 _ _ t697 _ _ t702 _ _ t705 t710 _ ?side1 ?side2 ?side3 ?side4 ?side5 ?side6 ?side7 ?side8 A7.out).mono ?_); (case side1 => refine (Kd.V_reads' (e := 3) (base := w.heap.size) (ok := fun k_ => (((k_ ≠ gb692 ∧ k_ ≠ gb693) ∧ k_ ≠ gb701) ∧ k_ ≠ gb709)) (n := t694.length) (c := co14) ?_).2.2; exact (by (with_reducible repeat (first | apply Kd.V_alloc | apply Kd.V_drewN | apply Kd.V_drew)); exact (Kd.V_mono (Kd.V_far (p := ⟨gb709, 1, none⟩) (Kd.V_far (p := ⟨gb709, 0, none⟩) (Kd.V_mono HO696.out (fun k_ hk => (⟨hk, hk.2⟩ : _ ∧ k_ ≠ gb709))) (fun _ hk => hk.2) (.slice Ao22 t702.length co22)) (fun _ hk => hk.2) (.slice Ao27 t705.length co27)) (fun _ h_ => h_.1)))); (case side2 => exact (Kd.V_reads' HO696.out).2.1); (case side3 => refine (Kd.V_reads' (e := 3) (base := w.heap.size) (ok := fun k_ => (((k_ ≠ gb692 ∧ k_ ≠ gb693) ∧ k_ ≠ gb701) ∧ k_ ≠ gb709)) (n := t697.length) (c := co18) ?_).2.2; exact (by (with_reducible repeat (first | apply Kd.V_alloc | apply Kd.V_drewN | apply Kd.V_drew)); exact (Kd.V_mono (Kd.V_far (p := ⟨gb709, 1, none⟩) (Kd.V_far (p := ⟨gb709, 0, none⟩) (Kd.V_mono HO699.out (fun k_ hk => (⟨hk, hk.2⟩ : _ ∧ k_ ≠ gb709))) (fun _ hk => hk.2) (.slice Ao22 t702.length co22)) (fun _ hk => hk.2) (.slice Ao27 t705.length co27)) (fun _ h_ => h_.1)))); (case side4 => exact (Kd.V_reads' HO699.out).2.1); (case side5 => refine (Kd.V_reads' (e := 3) (base := w.heap.size) (ok := fun k_ => ((k_ ≠ gb692 ∧ (k_ ≠ gb693 ∧ k_ ≠ gb701)) ∧ k_ ≠ gb709)) (n := t702.length) (c := co22) ?_).2.2; exact (by (with_reducible repeat (first | apply Kd.V_alloc | apply Kd.V_drewN | apply Kd.V_drew)); exact (Kd.V_mono (Kd.V_far (p := ⟨gb709, 1, none⟩) (Kd.V_far (p := ⟨gb709, 0, none⟩) (Kd.V_mono HO704.out (fun k_ hk => (⟨hk, hk.2⟩ : _ ∧ k_ ≠ gb709))) (fun _ hk => hk.2) (.slice Ao22 t702.length co22)) (fun _ hk => hk.2) (.slice Ao27 t705.length co27)) (fun _ h_ => h_.1)))); (case side6 => exact (Kd.V_reads' HO704.out).2.1); (case side7 => refine (Kd.V_reads' (e := 3) (base := w.heap.size) (ok := fun k_ => ((k_ ≠ gb692 ∧ (k_ ≠ gb693 ∧ k_ ≠ gb701)) ∧ k_ ≠ gb709)) (n := t705.length) (c := co27) ?_).2.2; exact (by (with_reducible repeat (first | apply Kd.V_alloc | apply Kd.V_drewN | apply Kd.V_drew)); exact (Kd.V_mono (Kd.V_far (p := ⟨gb709, 1, none⟩) (Kd.V_far (p := ⟨gb709, 0, none⟩) (Kd.V_mono HO707.out (fun k_ hk => (⟨hk, hk.2⟩ : _ ∧ k_ ≠ gb709))) (fun _ hk => hk.2) (.slice Ao22 t702.length co22)) (fun _ hk => hk.2) (.slice Ao27 t705.length co27)) (fun _ h_ => h_.1)))); (case side8 => exact (Kd.V_reads' HO707.out).2.1); rintro e w29 ⟨rfl, hb⟩; replace HO696 := Aside0.mk (Kd.V_below (by (with_reducible repeat (first | apply Kd.V_alloc | apply Kd.V_drewN | apply Kd.V_drew)); exact (Kd.V_mono (Kd.V_far (p := ⟨gb709, 1, none⟩) (Kd.V_far (p := ⟨gb709, 0, none⟩) (Kd.V_mono HO696.out (fun k_ hk => (⟨hk, hk.2⟩ : _ ∧ k_ ≠ gb709))) (fun _ hk => hk.2) (.slice Ao22 t702.length co22)) (fun _ hk => hk.2) (.slice Ao27 t705.length co27)) (fun _ h_ => h_.1))) hb); replace HO699 := Aside0.mk (Kd.V_below (by (with_reducible repeat (first | apply Kd.V_alloc | apply Kd.V_drewN | apply Kd.V_drew)); exact (Kd.V_mono (Kd.V_far (p := ⟨gb709, 1, none⟩) (Kd.V_far (p := ⟨gb709, 0, none⟩) (Kd.V_mono HO699.out (fun k_ hk => (⟨hk, hk.2⟩ : _ ∧ k_ ≠ gb709))) (fun _ hk => hk.2) (.slice Ao22 t702.length co22)) (fun _ hk => hk.2) (.slice Ao27 t705.length co27)) (fun _ h_ => h_.1))) hb); replace HO704 := Aside0.mk (Kd.V_below (by (with_reducible repeat (first | apply Kd.V_alloc | apply Kd.V_drewN | apply Kd.V_drew)); exact (Kd.V_mono (Kd.V_far (p := ⟨gb709, 1, none⟩) (Kd.V_far (p := ⟨gb709, 0, none⟩) (Kd.V_mono HO704.out (fun k_ hk => (⟨hk, hk.2⟩ : _ ∧ k_ ≠ gb709))) (fun _ hk => hk.2) (.slice Ao22 t702.length co22)) (fun _ hk => hk.2) (.slice Ao27 t705.length co27)) (fun _ h_ => h_.1))) hb); replace HO707 := Aside0.mk (Kd.V_below (by (with_reducible repeat (first | apply Kd.V_alloc | apply Kd.V_drewN | apply Kd.V_drew)); exact (Kd.V_mono (Kd.V_far (p := ⟨gb709, 1, none⟩) (Kd.V_far (p := ⟨gb709, 0, none⟩) (Kd.V_mono HO707.out (fun k_ hk => (⟨hk, hk.2⟩ : _ ∧ k_ ≠ gb709))) (fun _ hk => hk.2) (.slice Ao22 t702.length co22)) (fun _ hk => hk.2) (.slice Ao27 t705.length co27)) (fun _ h_ => h_.1))) hb); replace BK692 := Aside0.mk (blk_below (g := gb692) (o := .cells #[.slice A0_0 l0_0.length c0_0, .slice A0_1 l0_1.length c0_1] 33 (0, 0)) (by (with_reducible repeat (first | refine blk_drewN ?_ _ | refine blk_drew ?_ | refine blk_alloc ?_ _)); refine blk_far ?_ NB692_709.out _; (with_reducible repeat (first | refine blk_drewN ?_ _ | refine blk_drew ?_ | refine blk_alloc ?_ _)); refine blk_far ?_ NB692_709.out _; (with_reducible repeat (first | refine blk_drewN ?_ _ | refine blk_drew ?_ | refine blk_alloc ?_ _)); exact BK692.out) hb); replace BK693 := Aside0.mk (blk_below (g := gb693) (o := .cells #[.slice A1_0 l1_0.length c1_0, .slice A1_1 l1_1.length c1_1] 33 (0, 0)) (by (with_reducible repeat (first | refine blk_drewN ?_ _ | refine blk_drew ?_ | refine blk_alloc ?_ _)); refine blk_far ?_ NB693_709.out _; (with_reducible repeat (first | refine blk_drewN ?_ _ | refine blk_drew ?_ | refine blk_alloc ?_ _)); refine blk_far ?_ NB693_709.out _; (with_reducible repeat (first | refine blk_drewN ?_ _ | refine blk_drew ?_ | refine blk_alloc ?_ _)); exact BK693.out) hb); replace BK701 := Aside0.mk (blk_below (g := gb701) (o := .cells #[.slice Ao14 t694.length co14, .slice Ao18 t697.length co18] 33 (0, 0)) (by (with_reducible repeat (first | refine blk_drewN ?_ _ | refine blk_drew ?_ | refine blk_alloc ?_ _)); refine blk_far ?_ NB701_709.out _; (with_reducible repeat (first | refine blk_drewN ?_ _ | refine blk_drew ?_ | refine blk_alloc ?_ _)); refine blk_far ?_ NB701_709.out _; (with_reducible repeat (first | refine blk_drewN ?_ _ | refine blk_drew ?_ | refine blk_alloc ?_ _)); exact BK701.out) hb); replace BK709 := Aside0.mk (blk_below (g := gb709) (o := .cells #[.slice Ao22 t702.length co22, .slice Ao27 t705.length co27] 33 (0, 0)) qp_ hb); replace HB := b1_ hb; clear hb))
      go_ret
      exact ⟨qb_, hB_⟩
    · replace c6 := Bool.eq_false_iff.mpr c6
      subst c6
      have H1 : (some false) = some r := by rw [if_neg (show ¬ (false = true) by decide)] at H; exact H
      clear H
      have H := H1
      clear H1
      obtain rfl := Option.some.inj H
      go_enter Try.func81, Try.ntmps81
      go_wp2_with (first | ((with_reducible refine gate_dst (N := 2) rfl ?_); refine bx_ 2 #[.slice A0_0 l0_0.length c0_0, .slice A0_1 l0_1.length c0_1] 33 ?_; intro gb692 hg w30 hbox hb; have BK692 := Aside0.mk hbox; have GW692 := gw_ w hg; have GE692 := GW692; replace HB := b1_ hb; clear hb hbox hg) | ((with_reducible refine gate_dst (N := 3) rfl ?_); refine bx_ 3 #[.slice A1_0 l1_0.length c1_0, .slice A1_1 l1_1.length c1_1] 33 ?_; intro gb693 hg w31 hbox hb; have BK693 := Aside0.mk hbox; have GW693 := gw_ w hg; have GE693 := GW693; replace HB := b1_ hb; have NB692_693 := gN_ BK692 hg; have NB693_692 := gP_ BK692 hg; replace BK692 := bb_ BK692 hb; clear hb hbox hg; have hnb32 := NB692_693.out; have hnc32 := NB693_692.out; obtain ⟨hcz33_0, hcz33_1, hfz33_0, hfz33_1⟩ := c2_ BK692) | ((with_reducible refine gate_callee (f := 17) rfl ?_); refine gL_ (some 11) Try.func17 #[.agg #[.slice A0_0 l0_0.length c0_0, .slice A0_1 l0_1.length c0_1]] rfl qa_ ?_; (with_reducible refine (impl_CanonOf.calls k _ _ l0_0 _ _ l0_1 t694 t697 true _ (cb_ HR0_0) HC0_0.out (cb_ HR0_1) HC0_1.out A3.out).mono ?_); rintro e w34 ⟨v695, v698, rfl, ho0, ho1, hb⟩; refine ⟨_, rfl, ?_⟩; have HO696 := Aside0.mk (Kd.V_lower (Kd.V_mono (ok' := fun k_ => k_ ≠ gb692 ∧ k_ ≠ gb693) ho0 (fun k_ hk_ => ⟨(Kd.freshB (kk_ BK692) k_ hk_), (Kd.freshB (kk_ BK693) k_ hk_)⟩)) (below_size hB_)); have HO699 := Aside0.mk (Kd.V_lower (Kd.V_mono (ok' := fun k_ => k_ ≠ gb692 ∧ k_ ≠ gb693) ho1 (fun k_ hk_ => ⟨(Kd.freshB (kk_ BK692) k_ hk_), (Kd.freshB (kk_ BK693) k_ hk_)⟩)) (below_size hB_)); replace BK692 := bb_ BK692 hb; replace BK693 := bb_ BK693 hb; replace HB := b1_ hb; clear hb ho0 ho1) | ((with_reducible refine gate_dst (N := 5) rfl ?_); refine bx_ 5 #[.slice none 0 0, .slice none 0 0] 33 ?_; intro gb701 hg w35 hbox hb; replace HO696 := Aside0.mk (Kd.V_below (Kd.V_elderB (by (with_reducible repeat (first | apply Kd.V_alloc | apply Kd.V_drewN | apply Kd.V_drew)); exact HO696.out) gb701 (Nat.le_of_eq hg.symm)) hb); replace HO699 := Aside0.mk (Kd.V_below (Kd.V_elderB (by (with_reducible repeat (first | apply Kd.V_alloc | apply Kd.V_drewN | apply Kd.V_drew)); exact HO699.out) gb701 (Nat.le_of_eq hg.symm)) hb); have BK701 := Aside0.mk hbox; have GW701 := gw_ w hg; have GE701 := GW701; replace HB := b1_ hb; have NB692_701 := gN_ BK692 hg; have NB701_692 := gP_ BK692 hg; replace BK692 := bb_ BK692 hb; have NB693_701 := gN_ BK693 hg; have NB701_693 := gP_ BK693 hg; replace BK693 := bb_ BK693 hb; clear hb hbox hg; obtain ⟨Ao36, co36, eo36⟩ := Kd.V_slice HO696.out; subst eo36; have hnb37 := NB701_692.out; have hnc37 := NB692_701.out; have hnb38 := NB701_693.out; have hnc38 := NB693_701.out; obtain ⟨hcz39_0, hcz39_1, hfz39_0, hfz39_1⟩ := c2_ BK701; obtain ⟨Ao40, co40, eo40⟩ := Kd.V_slice HO699.out; subst eo40; obtain ⟨hcz41_0, hcz41_1, hfz41_0, hfz41_1⟩ := c2_ BK693) | ((with_reducible refine gate_callee (f := 17) rfl ?_); refine gL_ (some 16) Try.func17 #[.agg #[.slice A1_0 l1_0.length c1_0, .slice A1_1 l1_1.length c1_1]] rfl qa_ ?_; (with_reducible refine (impl_CanonOf.calls k _ _ l1_0 _ _ l1_1 t702 t705 false _ (Kd.C_below HR1_0.out hB_) HC1_0.out (Kd.C_below HR1_1.out hB_) HC1_1.out A4.out).mono ?_); rintro e w42 ⟨v703, v706, rfl, ho0, ho1, hb⟩; refine ⟨_, rfl, ?_⟩; replace HO696 := Aside0.mk (Kd.V_below (by (with_reducible repeat (first | apply Kd.V_alloc | apply Kd.V_drewN | apply Kd.V_drew)); exact (Kd.V_mono (Kd.V_far (p := ⟨gb701, 1, none⟩) (Kd.V_far (p := ⟨gb701, 0, none⟩) (Kd.V_mono HO696.out (fun k_ hk => (⟨hk, hk.2⟩ : _ ∧ k_ ≠ gb701))) (fun _ hk => hk.2) (.slice Ao36 t694.length co36)) (fun _ hk => hk.2) (.slice Ao40 t697.length co40)) (fun _ h_ => h_.1))) hb); replace HO699 := Aside0.mk (Kd.V_below (by (with_reducible repeat (first | apply Kd.V_alloc | apply Kd.V_drewN | apply Kd.V_drew)); exact (Kd.V_mono (Kd.V_far (p := ⟨gb701, 1, none⟩) (Kd.V_far (p := ⟨gb701, 0, none⟩) (Kd.V_mono HO699.out (fun k_ hk => (⟨hk, hk.2⟩ : _ ∧ k_ ≠ gb701))) (fun _ hk => hk.2) (.slice Ao36 t694.length co36)) (fun _ hk => hk.2) (.slice Ao40 t697.length co40)) (fun _ h_ => h_.1))) hb); have HO704 := Aside0.mk (Kd.V_lower (Kd.V_mono (ok' := fun k_ => k_ ≠ gb692 ∧ k_ ≠ gb693 ∧ k_ ≠ gb701) ho0 (fun k_ hk_ => ⟨(Kd.freshB (g := gb692) (o := .cells #[.slice A0_0 l0_0.length c0_0, .slice A0_1 l0_1.length c0_1] 33 (0, 0)) (by (with_reducible repeat (first | refine blk_drewN ?_ _ | refine blk_drew ?_ | refine blk_alloc ?_ _)); refine blk_far ?_ NB692_701.out _; (with_reducible repeat (first | refine blk_drewN ?_ _ | refine blk_drew ?_ | refine blk_alloc ?_ _)); refine blk_far ?_ NB692_701.out _; (with_reducible repeat (first | refine blk_drewN ?_ _ | refine blk_drew ?_ | refine blk_alloc ?_ _)); exact BK692.out) k_ hk_), (Kd.freshB (g := gb693) (o := .cells #[.slice A1_0 l1_0.length c1_0, .slice A1_1 l1_1.length c1_1] 33 (0, 0)) (by (with_reducible repeat (first | refine blk_drewN ?_ _ | refine blk_drew ?_ | refine blk_alloc ?_ _)); refine blk_far ?_ NB693_701.out _; (with_reducible repeat (first | refine blk_drewN ?_ _ | refine blk_drew ?_ | refine blk_alloc ?_ _)); refine blk_far ?_ NB693_701.out _; (with_reducible repeat (first | refine blk_drewN ?_ _ | refine blk_drew ?_ | refine blk_alloc ?_ _)); exact BK693.out) k_ hk_), (Kd.freshB (g := gb701) (o := .cells #[.slice Ao36 t694.length co36, .slice Ao40 t697.length co40] 33 (0, 0)) qp_ k_ hk_)⟩)) (below_size hB_)); have HO707 := Aside0.mk (Kd.V_lower (Kd.V_mono (ok' := fun k_ => k_ ≠ gb692 ∧ k_ ≠ gb693 ∧ k_ ≠ gb701) ho1 (fun k_ hk_ => ⟨(Kd.freshB (g := gb692) (o := .cells #[.slice A0_0 l0_0.length c0_0, .slice A0_1 l0_1.length c0_1] 33 (0, 0)) (by (with_reducible repeat (first | refine blk_drewN ?_ _ | refine blk_drew ?_ | refine blk_alloc ?_ _)); refine blk_far ?_ NB692_701.out _; (with_reducible repeat (first | refine blk_drewN ?_ _ | refine blk_drew ?_ | refine blk_alloc ?_ _)); refine blk_far ?_ NB692_701.out _; (with_reducible repeat (first | refine blk_drewN ?_ _ | refine blk_drew ?_ | refine blk_alloc ?_ _)); exact BK692.out) k_ hk_), (Kd.freshB (g := gb693) (o := .cells #[.slice A1_0 l1_0.length c1_0, .slice A1_1 l1_1.length c1_1] 33 (0, 0)) (by (with_reducible repeat (first | refine blk_drewN ?_ _ | refine blk_drew ?_ | refine blk_alloc ?_ _)); refine blk_far ?_ NB693_701.out _; (with_reducible repeat (first | refine blk_drewN ?_ _ | refine blk_drew ?_ | refine blk_alloc ?_ _)); refine blk_far ?_ NB693_701.out _; (with_reducible repeat (first | refine blk_drewN ?_ _ | refine blk_drew ?_ | refine blk_alloc ?_ _)); exact BK693.out) k_ hk_), (Kd.freshB (g := gb701) (o := .cells #[.slice Ao36 t694.length co36, .slice Ao40 t697.length co40] 33 (0, 0)) qp_ k_ hk_)⟩)) (below_size hB_)); replace BK692 := Aside0.mk (blk_below (g := gb692) (o := .cells #[.slice A0_0 l0_0.length c0_0, .slice A0_1 l0_1.length c0_1] 33 (0, 0)) (by (with_reducible repeat (first | refine blk_drewN ?_ _ | refine blk_drew ?_ | refine blk_alloc ?_ _)); refine blk_far ?_ NB692_701.out _; (with_reducible repeat (first | refine blk_drewN ?_ _ | refine blk_drew ?_ | refine blk_alloc ?_ _)); refine blk_far ?_ NB692_701.out _; (with_reducible repeat (first | refine blk_drewN ?_ _ | refine blk_drew ?_ | refine blk_alloc ?_ _)); exact BK692.out) hb); replace BK693 := Aside0.mk (blk_below (g := gb693) (o := .cells #[.slice A1_0 l1_0.length c1_0, .slice A1_1 l1_1.length c1_1] 33 (0, 0)) (by (with_reducible repeat (first | refine blk_drewN ?_ _ | refine blk_drew ?_ | refine blk_alloc ?_ _)); refine blk_far ?_ NB693_701.out _; (with_reducible repeat (first | refine blk_drewN ?_ _ | refine blk_drew ?_ | refine blk_alloc ?_ _)); refine blk_far ?_ NB693_701.out _; (with_reducible repeat (first | refine blk_drewN ?_ _ | refine blk_drew ?_ | refine blk_alloc ?_ _)); exact BK693.out) hb); replace BK701 := Aside0.mk (blk_below (g := gb701) (o := .cells #[.slice Ao36 t694.length co36, .slice Ao40 t697.length co40] 33 (0, 0)) qp_ hb); replace HB := b1_ hb; clear hb ho0 ho1) | ((with_reducible refine gate_dst (N := 7) rfl ?_); refine bx_ 7 #[.slice none 0 0, .slice none 0 0] 33 ?_; intro gb709 hg w43 hbox hb; replace HO696 := Aside0.mk (Kd.V_below (Kd.V_elderB (by (with_reducible repeat (first | apply Kd.V_alloc | apply Kd.V_drewN | apply Kd.V_drew)); exact HO696.out) gb709 (Nat.le_of_eq hg.symm)) hb); replace HO699 := Aside0.mk (Kd.V_below (Kd.V_elderB (by (with_reducible repeat (first | apply Kd.V_alloc | apply Kd.V_drewN | apply Kd.V_drew)); exact HO699.out) gb709 (Nat.le_of_eq hg.symm)) hb); replace HO704 := Aside0.mk (Kd.V_below (Kd.V_elderB (by (with_reducible repeat (first | apply Kd.V_alloc | apply Kd.V_drewN | apply Kd.V_drew)); exact HO704.out) gb709 (Nat.le_of_eq hg.symm)) hb); replace HO707 := Aside0.mk (Kd.V_below (Kd.V_elderB (by (with_reducible repeat (first | apply Kd.V_alloc | apply Kd.V_drewN | apply Kd.V_drew)); exact HO707.out) gb709 (Nat.le_of_eq hg.symm)) hb); have BK709 := Aside0.mk hbox; have GW709 := gw_ w hg; have GE709 := GW709; replace HB := b1_ hb; have NB692_709 := gN_ BK692 hg; have NB709_692 := gP_ BK692 hg; replace BK692 := bb_ BK692 hb; have NB693_709 := gN_ BK693 hg; have NB709_693 := gP_ BK693 hg; replace BK693 := bb_ BK693 hb; have NB701_709 := gN_ BK701 hg; have NB709_701 := gP_ BK701 hg; replace BK701 := bb_ BK701 hb; clear hb hbox hg; obtain ⟨Ao44, co44, eo44⟩ := Kd.V_slice HO704.out; subst eo44; have hnb45 := NB709_692.out; have hnc45 := NB692_709.out; have hnb46 := NB709_693.out; have hnc46 := NB693_709.out; have hnb47 := NB709_701.out; have hnc47 := NB701_709.out; obtain ⟨hcz48_0, hcz48_1, hfz48_0, hfz48_1⟩ := c2_ BK709; obtain ⟨Ao49, co49, eo49⟩ := Kd.V_slice HO707.out; subst eo49))
      go_ret
      exact ⟨qb_, hB_⟩
  · replace c5 := Bool.eq_false_iff.mpr c5
    subst c5
    have H1 : (some false) = some r := by rw [if_neg (show ¬ (false = true) by decide)] at H; exact H
    clear H
    have H := H1
    clear H1
    obtain rfl := Option.some.inj H
    go_enter Try.func81, Try.ntmps81
    go_wp2_with (first | ((with_reducible refine gate_dst (N := 2) rfl ?_); refine bx_ 2 #[.slice A0_0 l0_0.length c0_0, .slice A0_1 l0_1.length c0_1] 33 ?_; intro gb692 hg w50 hbox hb; have BK692 := Aside0.mk hbox; have GW692 := gw_ w hg; have GE692 := GW692; replace HB := b1_ hb; clear hb hbox hg) | ((with_reducible refine gate_dst (N := 3) rfl ?_); refine bx_ 3 #[.slice A1_0 l1_0.length c1_0, .slice A1_1 l1_1.length c1_1] 33 ?_; intro gb693 hg w51 hbox hb; have BK693 := Aside0.mk hbox; have GW693 := gw_ w hg; have GE693 := GW693; replace HB := b1_ hb; have NB692_693 := gN_ BK692 hg; have NB693_692 := gP_ BK692 hg; replace BK692 := bb_ BK692 hb; clear hb hbox hg; have hnb52 := NB692_693.out; have hnc52 := NB693_692.out; obtain ⟨hcz53_0, hcz53_1, hfz53_0, hfz53_1⟩ := c2_ BK692) | ((with_reducible refine gate_callee (f := 17) rfl ?_); refine gL_ (some 11) Try.func17 #[.agg #[.slice A0_0 l0_0.length c0_0, .slice A0_1 l0_1.length c0_1]] rfl qa_ ?_; (with_reducible refine (impl_CanonOf.calls k _ _ l0_0 _ _ l0_1 t694 t697 false _ (cb_ HR0_0) HC0_0.out (cb_ HR0_1) HC0_1.out A3.out).mono ?_); rintro e w54 ⟨v695, v698, rfl, ho0, ho1, hb⟩; refine ⟨_, rfl, ?_⟩; have HO696 := Aside0.mk (Kd.V_lower (Kd.V_mono (ok' := fun k_ => k_ ≠ gb692 ∧ k_ ≠ gb693) ho0 (fun k_ hk_ => ⟨(Kd.freshB (kk_ BK692) k_ hk_), (Kd.freshB (kk_ BK693) k_ hk_)⟩)) (below_size hB_)); have HO699 := Aside0.mk (Kd.V_lower (Kd.V_mono (ok' := fun k_ => k_ ≠ gb692 ∧ k_ ≠ gb693) ho1 (fun k_ hk_ => ⟨(Kd.freshB (kk_ BK692) k_ hk_), (Kd.freshB (kk_ BK693) k_ hk_)⟩)) (below_size hB_)); replace BK692 := bb_ BK692 hb; replace BK693 := bb_ BK693 hb; replace HB := b1_ hb; clear hb ho0 ho1) | ((with_reducible refine gate_dst (N := 5) rfl ?_); refine bx_ 5 #[.slice none 0 0, .slice none 0 0] 33 ?_; intro gb701 hg w55 hbox hb; replace HO696 := Aside0.mk (Kd.V_below (Kd.V_elderB (by (with_reducible repeat (first | apply Kd.V_alloc | apply Kd.V_drewN | apply Kd.V_drew)); exact HO696.out) gb701 (Nat.le_of_eq hg.symm)) hb); replace HO699 := Aside0.mk (Kd.V_below (Kd.V_elderB (by (with_reducible repeat (first | apply Kd.V_alloc | apply Kd.V_drewN | apply Kd.V_drew)); exact HO699.out) gb701 (Nat.le_of_eq hg.symm)) hb); have BK701 := Aside0.mk hbox; have GW701 := gw_ w hg; have GE701 := GW701; replace HB := b1_ hb; have NB692_701 := gN_ BK692 hg; have NB701_692 := gP_ BK692 hg; replace BK692 := bb_ BK692 hb; have NB693_701 := gN_ BK693 hg; have NB701_693 := gP_ BK693 hg; replace BK693 := bb_ BK693 hb; clear hb hbox hg; obtain ⟨Ao56, co56, eo56⟩ := Kd.V_slice HO696.out; subst eo56; have hnb57 := NB701_692.out; have hnc57 := NB692_701.out; have hnb58 := NB701_693.out; have hnc58 := NB693_701.out; obtain ⟨hcz59_0, hcz59_1, hfz59_0, hfz59_1⟩ := c2_ BK701; obtain ⟨Ao60, co60, eo60⟩ := Kd.V_slice HO699.out; subst eo60; obtain ⟨hcz61_0, hcz61_1, hfz61_0, hfz61_1⟩ := c2_ BK693) | ((with_reducible refine gate_callee (f := 17) rfl ?_); refine gL_ (some 16) Try.func17 #[.agg #[.slice A1_0 l1_0.length c1_0, .slice A1_1 l1_1.length c1_1]] rfl qa_ ?_; (with_reducible refine (impl_CanonOf.calls k _ _ l1_0 _ _ l1_1 t702 t705 t708 _ (Kd.C_below HR1_0.out hB_) HC1_0.out (Kd.C_below HR1_1.out hB_) HC1_1.out A4.out).mono ?_); rintro e w62 ⟨v703, v706, rfl, ho0, ho1, hb⟩; refine ⟨_, rfl, ?_⟩; replace HO696 := Aside0.mk (Kd.V_below (by (with_reducible repeat (first | apply Kd.V_alloc | apply Kd.V_drewN | apply Kd.V_drew)); exact (Kd.V_mono (Kd.V_far (p := ⟨gb701, 1, none⟩) (Kd.V_far (p := ⟨gb701, 0, none⟩) (Kd.V_mono HO696.out (fun k_ hk => (⟨hk, hk.2⟩ : _ ∧ k_ ≠ gb701))) (fun _ hk => hk.2) (.slice Ao56 t694.length co56)) (fun _ hk => hk.2) (.slice Ao60 t697.length co60)) (fun _ h_ => h_.1))) hb); replace HO699 := Aside0.mk (Kd.V_below (by (with_reducible repeat (first | apply Kd.V_alloc | apply Kd.V_drewN | apply Kd.V_drew)); exact (Kd.V_mono (Kd.V_far (p := ⟨gb701, 1, none⟩) (Kd.V_far (p := ⟨gb701, 0, none⟩) (Kd.V_mono HO699.out (fun k_ hk => (⟨hk, hk.2⟩ : _ ∧ k_ ≠ gb701))) (fun _ hk => hk.2) (.slice Ao56 t694.length co56)) (fun _ hk => hk.2) (.slice Ao60 t697.length co60)) (fun _ h_ => h_.1))) hb); have HO704 := Aside0.mk (Kd.V_lower (Kd.V_mono (ok' := fun k_ => k_ ≠ gb692 ∧ k_ ≠ gb693 ∧ k_ ≠ gb701) ho0 (fun k_ hk_ => ⟨(Kd.freshB (g := gb692) (o := .cells #[.slice A0_0 l0_0.length c0_0, .slice A0_1 l0_1.length c0_1] 33 (0, 0)) (by (with_reducible repeat (first | refine blk_drewN ?_ _ | refine blk_drew ?_ | refine blk_alloc ?_ _)); refine blk_far ?_ NB692_701.out _; (with_reducible repeat (first | refine blk_drewN ?_ _ | refine blk_drew ?_ | refine blk_alloc ?_ _)); refine blk_far ?_ NB692_701.out _; (with_reducible repeat (first | refine blk_drewN ?_ _ | refine blk_drew ?_ | refine blk_alloc ?_ _)); exact BK692.out) k_ hk_), (Kd.freshB (g := gb693) (o := .cells #[.slice A1_0 l1_0.length c1_0, .slice A1_1 l1_1.length c1_1] 33 (0, 0)) (by (with_reducible repeat (first | refine blk_drewN ?_ _ | refine blk_drew ?_ | refine blk_alloc ?_ _)); refine blk_far ?_ NB693_701.out _; (with_reducible repeat (first | refine blk_drewN ?_ _ | refine blk_drew ?_ | refine blk_alloc ?_ _)); refine blk_far ?_ NB693_701.out _; (with_reducible repeat (first | refine blk_drewN ?_ _ | refine blk_drew ?_ | refine blk_alloc ?_ _)); exact BK693.out) k_ hk_), (Kd.freshB (g := gb701) (o := .cells #[.slice Ao56 t694.length co56, .slice Ao60 t697.length co60] 33 (0, 0)) qp_ k_ hk_)⟩)) (below_size hB_)); have HO707 := Aside0.mk (Kd.V_lower (Kd.V_mono (ok' := fun k_ => k_ ≠ gb692 ∧ k_ ≠ gb693 ∧ k_ ≠ gb701) ho1 (fun k_ hk_ => ⟨(Kd.freshB (g := gb692) (o := .cells #[.slice A0_0 l0_0.length c0_0, .slice A0_1 l0_1.length c0_1] 33 (0, 0)) (by (with_reducible repeat (first | refine blk_drewN ?_ _ | refine blk_drew ?_ | refine blk_alloc ?_ _)); refine blk_far ?_ NB692_701.out _; (with_reducible repeat (first | refine blk_drewN ?_ _ | refine blk_drew ?_ | refine blk_alloc ?_ _)); refine blk_far ?_ NB692_701.out _; (with_reducible repeat (first | refine blk_drewN ?_ _ | refine blk_drew ?_ | refine blk_alloc ?_ _)); exact BK692.out) k_ hk_), (Kd.freshB (g := gb693) (o := .cells #[.slice A1_0 l1_0.length c1_0, .slice A1_1 l1_1.length c1_1] 33 (0, 0)) (by (with_reducible repeat (first | refine blk_drewN ?_ _ | refine blk_drew ?_ | refine blk_alloc ?_ _)); refine blk_far ?_ NB693_701.out _; (with_reducible repeat (first | refine blk_drewN ?_ _ | refine blk_drew ?_ | refine blk_alloc ?_ _)); refine blk_far ?_ NB693_701.out _; (with_reducible repeat (first | refine blk_drewN ?_ _ | refine blk_drew ?_ | refine blk_alloc ?_ _)); exact BK693.out) k_ hk_), (Kd.freshB (g := gb701) (o := .cells #[.slice Ao56 t694.length co56, .slice Ao60 t697.length co60] 33 (0, 0)) qp_ k_ hk_)⟩)) (below_size hB_)); replace BK692 := Aside0.mk (blk_below (g := gb692) (o := .cells #[.slice A0_0 l0_0.length c0_0, .slice A0_1 l0_1.length c0_1] 33 (0, 0)) (by (with_reducible repeat (first | refine blk_drewN ?_ _ | refine blk_drew ?_ | refine blk_alloc ?_ _)); refine blk_far ?_ NB692_701.out _; (with_reducible repeat (first | refine blk_drewN ?_ _ | refine blk_drew ?_ | refine blk_alloc ?_ _)); refine blk_far ?_ NB692_701.out _; (with_reducible repeat (first | refine blk_drewN ?_ _ | refine blk_drew ?_ | refine blk_alloc ?_ _)); exact BK692.out) hb); replace BK693 := Aside0.mk (blk_below (g := gb693) (o := .cells #[.slice A1_0 l1_0.length c1_0, .slice A1_1 l1_1.length c1_1] 33 (0, 0)) (by (with_reducible repeat (first | refine blk_drewN ?_ _ | refine blk_drew ?_ | refine blk_alloc ?_ _)); refine blk_far ?_ NB693_701.out _; (with_reducible repeat (first | refine blk_drewN ?_ _ | refine blk_drew ?_ | refine blk_alloc ?_ _)); refine blk_far ?_ NB693_701.out _; (with_reducible repeat (first | refine blk_drewN ?_ _ | refine blk_drew ?_ | refine blk_alloc ?_ _)); exact BK693.out) hb); replace BK701 := Aside0.mk (blk_below (g := gb701) (o := .cells #[.slice Ao56 t694.length co56, .slice Ao60 t697.length co60] 33 (0, 0)) qp_ hb); replace HB := b1_ hb; clear hb ho0 ho1) | ((with_reducible refine gate_dst (N := 7) rfl ?_); refine bx_ 7 #[.slice none 0 0, .slice none 0 0] 33 ?_; intro gb709 hg w63 hbox hb; replace HO696 := Aside0.mk (Kd.V_below (Kd.V_elderB (by (with_reducible repeat (first | apply Kd.V_alloc | apply Kd.V_drewN | apply Kd.V_drew)); exact HO696.out) gb709 (Nat.le_of_eq hg.symm)) hb); replace HO699 := Aside0.mk (Kd.V_below (Kd.V_elderB (by (with_reducible repeat (first | apply Kd.V_alloc | apply Kd.V_drewN | apply Kd.V_drew)); exact HO699.out) gb709 (Nat.le_of_eq hg.symm)) hb); replace HO704 := Aside0.mk (Kd.V_below (Kd.V_elderB (by (with_reducible repeat (first | apply Kd.V_alloc | apply Kd.V_drewN | apply Kd.V_drew)); exact HO704.out) gb709 (Nat.le_of_eq hg.symm)) hb); replace HO707 := Aside0.mk (Kd.V_below (Kd.V_elderB (by (with_reducible repeat (first | apply Kd.V_alloc | apply Kd.V_drewN | apply Kd.V_drew)); exact HO707.out) gb709 (Nat.le_of_eq hg.symm)) hb); have BK709 := Aside0.mk hbox; have GW709 := gw_ w hg; have GE709 := GW709; replace HB := b1_ hb; have NB692_709 := gN_ BK692 hg; have NB709_692 := gP_ BK692 hg; replace BK692 := bb_ BK692 hb; have NB693_709 := gN_ BK693 hg; have NB709_693 := gP_ BK693 hg; replace BK693 := bb_ BK693 hb; have NB701_709 := gN_ BK701 hg; have NB709_701 := gP_ BK701 hg; replace BK701 := bb_ BK701 hb; clear hb hbox hg; obtain ⟨Ao64, co64, eo64⟩ := Kd.V_slice HO704.out; subst eo64; have hnb65 := NB709_692.out; have hnc65 := NB692_709.out; have hnb66 := NB709_693.out; have hnc66 := NB693_709.out; have hnb67 := NB709_701.out; have hnc67 := NB701_709.out; obtain ⟨hcz68_0, hcz68_1, hfz68_0, hfz68_1⟩ := c2_ BK709; obtain ⟨Ao69, co69, eo69⟩ := Kd.V_slice HO707.out; subst eo69))
    go_ret
    exact ⟨qb_, hB_⟩
end Go.Proofs.Ytoijcallajegfaa.A
end
section
namespace Go.Proofs.Ytoijcallajegfaa.A
open Go.RowKit Go.Proofs.YtoijcallajegfaaW.PrintWords Go.Proofs.YtoijcallajegfaaW.PrintLast Go.Proofs.YtoijcallajegfaaW.PrintMore
attribute [local go_sem] max2_int min2_int max_two min_two max_three min_three max_four min_four
set_option linter.unusedVariables false
set_option linter.unusedSimpArgs false
def impl_IsFixedBy.f (k : Nat) (l0_0 : List Int) (l0_1 : List Int) (a1 : ByteArray) : Option (Bool) := (impl_RunWord.f k l0_0 l0_1 a1).bind fun bt712 => (if bt712.2.2 = true then ((impl_AreIsomorphic.f k bt712.1 bt712.2.1 l0_0 l0_1).bind fun t720 => (some t720)) else (some false))
theorem impl_IsFixedBy.mono : ∀ a0 a1 a2 k, LeO (impl_IsFixedBy.f k a0 a1 a2) (impl_IsFixedBy.f (k + 1) a0 a1 a2) := by
  intro a0 a1 a2 k
  unfold impl_IsFixedBy.f
  repeat' first|exact impl_AreIsomorphic.mono _ _ _ _ _|exact impl_RunWord.mono _ _ _ _|exact lo_|refine LeO.ite ?_ ?_|refine LeO.bind ?_ (fun _ => ?_)
set_option maxHeartbeats 8000000 in
set_option maxRecDepth 100000 in
theorem impl_IsFixedBy.calls (k : Nat) (A0_0 : Option Addr) (c0_0 : Nat) (l0_0 : List Int) (A0_1 : Option Addr) (c0_1 : Nat) (l0_1 : List Int) (a1 : ByteArray) (r : Bool) (w : World) (hr0_0 : Kd.C (Kd.int .i64) w A0_0 l0_0.length l0_0) (hc0_0 : l0_0.length ≤ c0_0) (hr0_1 : Kd.C (Kd.int .i64) w A0_1 l0_1.length l0_1) (hc0_1 : l0_1.length ≤ c0_1) (h : impl_IsFixedBy.f k l0_0 l0_1 a1 = some r) :
    Calls Try.prog 34 #[.agg #[.slice A0_0 l0_0.length c0_0, .slice A0_1 l0_1.length c0_1], .string a1] w fun e w' => e = .returned (.bool r) ∧ Below w.heap.size w w' := by
  have hu33 := Try.underlying33
  have HR0_0 := Aside0.mk hr0_0
  have HC0_0 := Aside0.mk hc0_0
  clear hr0_0 hc0_0
  have HR0_1 := Aside0.mk hr0_1
  have HC0_1 := Aside0.mk hc0_1
  clear hr0_1 hc0_1
  have HB := Aside0.mk (Below.refl w.heap.size w)
  have H := h
  unfold impl_IsFixedBy.f at H
  clear h
  obtain ⟨⟨t712, t715, t718⟩, A3, H⟩ := bi_ H
  try dsimp only at H
  by_cases c4 : t718 = true
  · subst c4
    rw [if_pos rfl] at H
    obtain ⟨t720, A5, H⟩ := bi_ H
    obtain rfl := Option.some.inj H
    go_enter Try.func34, Try.ntmps34
    go_wp2_with (first | ((with_reducible refine gate_dst (N := 2) rfl ?_); refine bx_ 2 #[.slice A0_0 l0_0.length c0_0, .slice A0_1 l0_1.length c0_1] 33 ?_; intro gb711 hg w6 hbox hb; have BK711 := Aside0.mk hbox; have GW711 := gw_ w hg; have GE711 := GW711; replace HB := b1_ hb; clear hb hbox hg; obtain ⟨hcz7_0, hcz7_1, hfz7_0, hfz7_1⟩ := c2_ BK711) | ((with_reducible refine gate_callee (f := 21) rfl ?_); refine gL_ (some 10) Try.func21 #[.agg #[.slice A0_0 l0_0.length c0_0, .slice A0_1 l0_1.length c0_1], .string a1] rfl qa_ ?_; (with_reducible refine (impl_RunWord.calls k _ _ l0_0 _ _ l0_1 a1 t712 t715 true _ (cb_ HR0_0) HC0_0.out (cb_ HR0_1) HC0_1.out A3.out).mono ?_); rintro e w8 ⟨v713, v716, rfl, ho0, ho1, hb⟩; refine ⟨_, rfl, ?_⟩; have HO714 := rl_ w ho0; have HO717 := rl_ w ho1; replace BK711 := bb_ BK711 hb; replace HB := b1_ hb; clear hb ho0 ho1) | ((with_reducible refine gate_dst (N := 5) rfl ?_); refine bx_ 5 #[.slice none 0 0, .slice none 0 0] 33 ?_; intro gb719 hg w9 hbox hb; replace HO714 := rb_ HO714 hb; replace HO717 := rb_ HO717 hb; have BK719 := Aside0.mk hbox; have GW719 := gw_ w hg; have GE719 := GW719; replace HB := b1_ hb; have NB711_719 := gN_ BK711 hg; have NB719_711 := gP_ BK711 hg; replace BK711 := bb_ BK711 hb; clear hb hbox hg; obtain ⟨Ao10, co10, eo10⟩ := Kd.R_slice HO714.out; subst eo10; have hnb11 := NB719_711.out; have hnc11 := NB711_719.out; obtain ⟨hcz12_0, hcz12_1, hfz12_0, hfz12_1⟩ := c2_ BK719; obtain ⟨Ao13, co13, eo13⟩ := Kd.R_slice HO717.out; subst eo13; obtain ⟨hcz14_0, hcz14_1, hfz14_0, hfz14_1⟩ := c2_ BK711) | (go_at_call 81; (with_reducible refine (impl_AreIsomorphic.calls k _ _ t712 _ _ t715 _ _ l0_0 _ _ l0_1 t720 _ ?side1 ?side2 ?side3 ?side4 ?side5 ?side6 ?side7 ?side8 A5.out).mono ?_); (case side1 => refine (Kd.R_reads' (e := 3) (base := w.heap.size) (ok := fun k_ => some k_ ≠ (.slice Ao13 t715.length co13 : Value).ownBlock) (n := t712.length) (c := co10) ?_).2.2; exact (rw_ (fa_ HO714 BK719))); (case side2 => exact (Kd.R_reads' HO714.out).2.1); (case side3 => refine (Kd.R_reads' (e := 3) (base := w.heap.size) (ok := fun k_ => some k_ ≠ (.slice Ao10 t712.length co10 : Value).ownBlock) (n := t715.length) (c := co13) ?_).2.2; exact (rw_ (fa_ HO717 BK719))); (case side4 => exact (Kd.R_reads' HO717.out).2.1); (case side5 => exact Kd.C_below HR0_0.out hB_); (case side6 => exact HC0_0.out); (case side7 => exact Kd.C_below HR0_1.out hB_); (case side8 => exact HC0_1.out); rintro e w15 ⟨rfl, hb⟩; replace HO714 := Aside0.mk (Kd.R_below (rw_ (fa_ HO714 BK719)) hb); replace HO717 := Aside0.mk (Kd.R_below (rw_ (fa_ HO717 BK719)) hb); replace BK711 := Aside0.mk (blk_below (g := gb711) (o := .cells #[.slice A0_0 l0_0.length c0_0, .slice A0_1 l0_1.length c0_1] 33 (0, 0)) (by (with_reducible repeat (first | refine blk_drewN ?_ _ | refine blk_drew ?_ | refine blk_alloc ?_ _)); refine blk_far ?_ NB711_719.out _; (with_reducible repeat (first | refine blk_drewN ?_ _ | refine blk_drew ?_ | refine blk_alloc ?_ _)); refine blk_far ?_ NB711_719.out _; (with_reducible repeat (first | refine blk_drewN ?_ _ | refine blk_drew ?_ | refine blk_alloc ?_ _)); exact BK711.out) hb); replace BK719 := Aside0.mk (blk_below (g := gb719) (o := .cells #[.slice Ao10 t712.length co10, .slice Ao13 t715.length co13] 33 (0, 0)) qp_ hb); replace HB := b1_ hb; clear hb))
    go_ret
    exact ⟨qb_, hB_⟩
  · replace c4 := Bool.eq_false_iff.mpr c4
    subst c4
    have H1 : (some false) = some r := by rw [if_neg (show ¬ (false = true) by decide)] at H; exact H
    clear H
    have H := H1
    clear H1
    obtain rfl := Option.some.inj H
    go_enter Try.func34, Try.ntmps34
    go_wp2_with (first | ((with_reducible refine gate_dst (N := 2) rfl ?_); refine bx_ 2 #[.slice A0_0 l0_0.length c0_0, .slice A0_1 l0_1.length c0_1] 33 ?_; intro gb711 hg w16 hbox hb; have BK711 := Aside0.mk hbox; have GW711 := gw_ w hg; have GE711 := GW711; replace HB := b1_ hb; clear hb hbox hg; obtain ⟨hcz17_0, hcz17_1, hfz17_0, hfz17_1⟩ := c2_ BK711) | ((with_reducible refine gate_callee (f := 21) rfl ?_); refine gL_ (some 10) Try.func21 #[.agg #[.slice A0_0 l0_0.length c0_0, .slice A0_1 l0_1.length c0_1], .string a1] rfl qa_ ?_; (with_reducible refine (impl_RunWord.calls k _ _ l0_0 _ _ l0_1 a1 t712 t715 false _ (cb_ HR0_0) HC0_0.out (cb_ HR0_1) HC0_1.out A3.out).mono ?_); rintro e w18 ⟨v713, v716, rfl, ho0, ho1, hb⟩; refine ⟨_, rfl, ?_⟩; have HO714 := rl_ w ho0; have HO717 := rl_ w ho1; replace BK711 := bb_ BK711 hb; replace HB := b1_ hb; clear hb ho0 ho1) | ((with_reducible refine gate_dst (N := 5) rfl ?_); refine bx_ 5 #[.slice none 0 0, .slice none 0 0] 33 ?_; intro gb719 hg w19 hbox hb; replace HO714 := rb_ HO714 hb; replace HO717 := rb_ HO717 hb; have BK719 := Aside0.mk hbox; have GW719 := gw_ w hg; have GE719 := GW719; replace HB := b1_ hb; have NB711_719 := gN_ BK711 hg; have NB719_711 := gP_ BK711 hg; replace BK711 := bb_ BK711 hb; clear hb hbox hg; obtain ⟨Ao20, co20, eo20⟩ := Kd.R_slice HO714.out; subst eo20; have hnb21 := NB719_711.out; have hnc21 := NB711_719.out; obtain ⟨hcz22_0, hcz22_1, hfz22_0, hfz22_1⟩ := c2_ BK719; obtain ⟨Ao23, co23, eo23⟩ := Kd.R_slice HO717.out; subst eo23))
    go_ret
    exact ⟨qb_, hB_⟩
end Go.Proofs.Ytoijcallajegfaa.A
end
section
namespace Go.Proofs.Ytoijcallajegfaa.A
open Go.RowKit Go.Proofs.YtoijcallajegfaaW.PrintWords Go.Proofs.YtoijcallajegfaaW.PrintLast Go.Proofs.YtoijcallajegfaaW.PrintMore
attribute [local go_sem] max2_int min2_int max_two min_two max_three min_three max_four min_four
set_option linter.unusedVariables false
set_option linter.unusedSimpArgs false
def laws_eqIntS.l0 : Nat → List Int → List Int → Int → Option (Bool)
  | 0, _, _, _ => none
  | k + 1, x0, x1, x5 => if x5 < (x0.length : Int) then (if 0 ≤ x5 then (if x5 < (x1.length : Int) then (if (rd x0 x5) = (rd x1 x5) then (laws_eqIntS.l0 k x0 x1 (wrap64 (x5 + 1))) else (some false)) else (none)) else (none)) else (some true)
def laws_eqIntS.f (k : Nat) (l0 : List Int) (l1 : List Int) : Option (Bool) := if (l0.length : Int) = (l1.length : Int) then (laws_eqIntS.l0 k l0 l1 0) else (some false)
theorem laws_eqIntS.mono_l : ∀ k, (∀ y0 y1 y2, LeO (laws_eqIntS.l0 k y0 y1 y2) (laws_eqIntS.l0 (k + 1) y0 y1 y2))
  | 0 => fun _ _ _ r h => by simp [laws_eqIntS.l0] at h
  | k + 1 => by
    have ih0 := laws_eqIntS.mono_l k
    · intro y0 y1 y2
      unfold laws_eqIntS.l0
      repeat' first|exact ih0 _ _ _|exact lo_|refine LeO.ite ?_ ?_|refine LeO.bind ?_ (fun _ => ?_)
theorem laws_eqIntS.mono : ∀ a0 a1 k, LeO (laws_eqIntS.f k a0 a1) (laws_eqIntS.f (k + 1) a0 a1) := by
  intro a0 a1 k
  have ih0 := laws_eqIntS.mono_l k
  unfold laws_eqIntS.f
  repeat' first|exact ih0 _ _ _|exact lo_|refine LeO.ite ?_ ?_|refine LeO.bind ?_ (fun _ => ?_)
set_option maxHeartbeats 8000000 in
set_option maxRecDepth 100000 in
theorem laws_eqIntS.calls (k : Nat) (A0 : Option Addr) (c0 : Nat) (l0 : List Int) (A1 : Option Addr) (c1 : Nat) (l1 : List Int) (r : Bool) (w : World) (hr0 : Kd.C (Kd.int .i64) w A0 l0.length l0) (hc0 : l0.length ≤ c0) (hr1 : Kd.C (Kd.int .i64) w A1 l1.length l1) (hc1 : l1.length ≤ c1) (h : laws_eqIntS.f k l0 l1 = some r) :
    Calls Try.prog 82 #[.slice A0 l0.length c0, .slice A1 l1.length c1] w fun e w' => e = .returned (.bool r) ∧ Drawn0 w w' := by
  have HR0 := Aside0.mk hr0
  have HC0 := Aside0.mk hc0
  clear hr0 hc0
  have HR1 := Aside0.mk hr1
  have HC1 := Aside0.mk hc1
  clear hr1 hc1
  have H := h
  unfold laws_eqIntS.f at H
  clear h
  by_cases c3 : (l0.length : Int) = (l1.length : Int)
  · rw [if_pos c3] at H
    have c3b0 : ((l0.length : Int) == (l1.length : Int)) = true := beq_iff_eq.mpr c3
    have c3b1 : ((l0.length : Int) != (l1.length : Int)) = false := bne_eq_false_iff_eq.mpr c3
    have c3b2 : (l0.length == l1.length) = true := by first | simpa using c3 | (simp at c3 ⊢; omega)
    clear c3
    have H' := Aside0.mk H
    clear H
    go_enter Try.func82, Try.ntmps82
    go_wp2
    repeat (go_quiet (fail); try go_wp2)
    go_loopg [5] k (fun kq v5 w' => ∃ (x5_1 : Int), v5 = .int .i64 x5_1 ∧ Aside0 (laws_eqIntS.l0 kq l0 l1 x5_1 = some r) ∧ Aside0 (kq ≤ k) ∧ Drawn0 w w')
    case atStart => exact ⟨(0), qc_, H', ⟨Nat.le_refl _⟩, by repeat (first | exact Drawn0.refl _ | apply Drawn0.step)⟩
    case round =>
      clear H'
      obtain ⟨x5_1, rfl, HA, HK1, ⟨m1, rfl⟩⟩ := hrel
      cases gk with
      | zero => exact absurd HA.out (by simp [laws_eqIntS.l0])
      | succ k1 =>
        have H := HA.out
        clear HA
        simp only [laws_eqIntS.l0] at H
        by_cases c4 : x5_1 < (l0.length : Int)
        · rw [if_pos c4] at H
          have c4b0 := decide_eq_true c4
          clear c4
          have c5 := cp_ H
          replace H := ca_ H
          have c5b0 := decide_eq_true c5
          clear c5
          have c6 := cp_ H
          replace H := ca_ H
          have c6b0 := decide_eq_true c6
          clear c6
          by_cases c7 : (rd l0 x5_1) = (rd l1 x5_1)
          · rw [if_pos c7] at H
            have c7b0 : ((rd l0 x5_1) == (rd l1 x5_1)) = true := beq_iff_eq.mpr c7
            have c7b1 : ((rd l0 x5_1) != (rd l1 x5_1)) = false := bne_eq_false_iff_eq.mpr c7
            clear c7
            have H' := Aside0.mk H
            clear H
            have p995 : 0 ≤ (x5_1 : Int) := of_decide_eq_true qe_
            have q995 : x5_1 < (l0.length : Int) := of_decide_eq_true qe_
            obtain ⟨ad995, e995, hx995_0⟩ := Kd.at_int HR0.out x5_1 p995 q995
            cases e995
            replace p995 := eq_true p995
            replace q995 := eq_true q995
            have p996 : 0 ≤ (x5_1 : Int) := of_decide_eq_true qe_
            have q996 : x5_1 < (l1.length : Int) := of_decide_eq_true qe_
            obtain ⟨ad996, e996, hx996_0⟩ := Kd.at_int HR1.out x5_1 p996 q996
            cases e996
            replace p996 := eq_true p996
            replace q996 := eq_true q996
            go_wp2
            repeat (go_quiet (fail); try go_wp2)
            go_roundg k1
            case measure => have := HK1.out; omega
            case rel => exact ⟨(wrap64 (x5_1 + 1)), qc_, H', ⟨by have := HK1.out; omega⟩, by repeat (first | exact Drawn0.refl _ | apply Drawn0.step)⟩
          · rw [if_neg c7] at H
            have c7b0 : ((rd l0 x5_1) == (rd l1 x5_1)) = false := beq_eq_false_iff_ne.mpr c7
            have c7b1 : ((rd l0 x5_1) != (rd l1 x5_1)) = true := bne_iff_ne.mpr c7
            obtain rfl := Option.some.inj H
            have p995 : 0 ≤ (x5_1 : Int) := of_decide_eq_true qe_
            have q995 : x5_1 < (l0.length : Int) := of_decide_eq_true qe_
            obtain ⟨ad995, e995, hx995_0⟩ := Kd.at_int HR0.out x5_1 p995 q995
            cases e995
            replace p995 := eq_true p995
            replace q995 := eq_true q995
            have p996 : 0 ≤ (x5_1 : Int) := of_decide_eq_true qe_
            have q996 : x5_1 < (l1.length : Int) := of_decide_eq_true qe_
            obtain ⟨ad996, e996, hx996_0⟩ := Kd.at_int HR1.out x5_1 p996 q996
            cases e996
            replace p996 := eq_true p996
            replace q996 := eq_true q996
            go_wp2
            repeat (go_quiet (fail); try go_wp2)
            go_ret
            exact ⟨qc_, by repeat (first | exact Drawn0.refl _ | apply Drawn0.step)⟩
        · rw [if_neg c4] at H
          have c4b0 := decide_eq_false c4
          clear c4
          obtain rfl := Option.some.inj H
          go_wp2
          repeat (go_quiet (fail); try go_wp2)
          go_ret
          exact ⟨qc_, by repeat (first | exact Drawn0.refl _ | apply Drawn0.step)⟩
  · rw [if_neg c3] at H
    have c3b0 : ((l0.length : Int) == (l1.length : Int)) = false := beq_eq_false_iff_ne.mpr c3
    have c3b1 : ((l0.length : Int) != (l1.length : Int)) = true := bne_iff_ne.mpr c3
    have c3b2 : (l0.length == l1.length) = false := by first | simpa using c3 | (simp at c3 ⊢; omega)
    obtain rfl := Option.some.inj H
    go_enter Try.func82, Try.ntmps82
    go_wp2
    repeat (go_quiet (fail); try go_wp2)
    go_ret
    exact ⟨qc_, by repeat (first | exact Drawn0.refl _ | apply Drawn0.step)⟩
end Go.Proofs.Ytoijcallajegfaa.A
end
section
namespace Go.Proofs.Ytoijcallajegfaa.A
open Go.RowKit Go.Proofs.YtoijcallajegfaaW.PrintWords Go.Proofs.YtoijcallajegfaaW.PrintLast Go.Proofs.YtoijcallajegfaaW.PrintMore
attribute [local go_sem] max2_int min2_int max_two min_two max_three min_three max_four min_four
set_option linter.unusedVariables false
set_option linter.unusedSimpArgs false
def laws_eqSurface.f (k : Nat) (l0_0 : List Int) (l0_1 : List Int) (l1_0 : List Int) (l1_1 : List Int) : Option (Bool) := (laws_eqIntS.f k l0_0 l1_0).bind fun t999 => (if t999 = true then ((laws_eqIntS.f k l0_1 l1_1).bind fun t1000 => (if t1000 = true then (some true) else (some false))) else (some false))
theorem laws_eqSurface.mono : ∀ a0 a1 a2 a3 k, LeO (laws_eqSurface.f k a0 a1 a2 a3) (laws_eqSurface.f (k + 1) a0 a1 a2 a3) := by
  intro a0 a1 a2 a3 k
  unfold laws_eqSurface.f
  repeat' first|exact laws_eqIntS.mono _ _ _|exact lo_|refine LeO.ite ?_ ?_|refine LeO.bind ?_ (fun _ => ?_)
set_option maxHeartbeats 8000000 in
set_option maxRecDepth 100000 in
theorem laws_eqSurface.calls (k : Nat) (A0_0 : Option Addr) (c0_0 : Nat) (l0_0 : List Int) (A0_1 : Option Addr) (c0_1 : Nat) (l0_1 : List Int) (A1_0 : Option Addr) (c1_0 : Nat) (l1_0 : List Int) (A1_1 : Option Addr) (c1_1 : Nat) (l1_1 : List Int) (r : Bool) (w : World) (hr0_0 : Kd.C (Kd.int .i64) w A0_0 l0_0.length l0_0) (hc0_0 : l0_0.length ≤ c0_0) (hr0_1 : Kd.C (Kd.int .i64) w A0_1 l0_1.length l0_1) (hc0_1 : l0_1.length ≤ c0_1) (hr1_0 : Kd.C (Kd.int .i64) w A1_0 l1_0.length l1_0) (hc1_0 : l1_0.length ≤ c1_0) (hr1_1 : Kd.C (Kd.int .i64) w A1_1 l1_1.length l1_1) (hc1_1 : l1_1.length ≤ c1_1) (h : laws_eqSurface.f k l0_0 l0_1 l1_0 l1_1 = some r) :
    Calls Try.prog 35 #[.agg #[.slice A0_0 l0_0.length c0_0, .slice A0_1 l0_1.length c0_1], .agg #[.slice A1_0 l1_0.length c1_0, .slice A1_1 l1_1.length c1_1]] w fun e w' => e = .returned (.bool r) ∧ Below w.heap.size w w' := by
  have hu33 := Try.underlying33
  have HR0_0 := Aside0.mk hr0_0
  have HC0_0 := Aside0.mk hc0_0
  clear hr0_0 hc0_0
  have HR0_1 := Aside0.mk hr0_1
  have HC0_1 := Aside0.mk hc0_1
  clear hr0_1 hc0_1
  have HR1_0 := Aside0.mk hr1_0
  have HC1_0 := Aside0.mk hc1_0
  clear hr1_0 hc1_0
  have HR1_1 := Aside0.mk hr1_1
  have HC1_1 := Aside0.mk hc1_1
  clear hr1_1 hc1_1
  have HB := Aside0.mk (Below.refl w.heap.size w)
  have H := h
  unfold laws_eqSurface.f at H
  clear h
  obtain ⟨t999, A3, H⟩ := bi_ H
  by_cases c4 : t999 = true
  · subst c4
    rw [if_pos rfl] at H
    obtain ⟨t1000, A5, H⟩ := bi_ H
    by_cases c6 : t1000 = true
    · subst c6
      rw [if_pos rfl] at H
      obtain rfl := Option.some.inj H
      go_enter Try.func35, Try.ntmps35
      go_wp2_with (first | ((with_reducible refine gate_dst (N := 2) rfl ?_); refine bx_ 2 #[.slice A0_0 l0_0.length c0_0, .slice A0_1 l0_1.length c0_1] 33 ?_; intro gb997 hg w7 hbox hb; have BK997 := Aside0.mk hbox; have GW997 := gw_ w hg; have GE997 := GW997; replace HB := b1_ hb; clear hb hbox hg) | ((with_reducible refine gate_dst (N := 3) rfl ?_); refine bx_ 3 #[.slice A1_0 l1_0.length c1_0, .slice A1_1 l1_1.length c1_1] 33 ?_; intro gb998 hg w8 hbox hb; have BK998 := Aside0.mk hbox; have GW998 := gw_ w hg; have GE998 := GW998; replace HB := b1_ hb; have NB997_998 := gN_ BK997 hg; have NB998_997 := gP_ BK997 hg; replace BK997 := bb_ BK997 hb; clear hb hbox hg; have hnb9 := NB997_998.out; have hnc9 := NB998_997.out; obtain ⟨hcz10_0, hcz10_1, hfz10_0, hfz10_1⟩ := c2_ BK997; obtain ⟨hcz11_0, hcz11_1, hfz11_0, hfz11_1⟩ := c2_ BK998) | ((with_reducible refine gate_callee (f := 82) rfl ?_); refine gL_ (some 9) Try.func82 #[.slice A0_0 l0_0.length c0_0, .slice A1_0 l1_0.length c1_0] rfl qa_ ?_; (with_reducible refine (laws_eqIntS.calls k _ _ l0_0 _ _ l1_0 true _ (cb_ HR0_0) HC0_0.out (cb_ HR1_0) HC1_0.out A3.out).mono ?_); rintro e w' ⟨rfl, ⟨nd, rfl⟩⟩; refine ⟨_, rfl, ?_⟩) | ((with_reducible refine gate_callee (f := 82) rfl ?_); refine gL_ (some 15) Try.func82 #[.slice A0_1 l0_1.length c0_1, .slice A1_1 l1_1.length c1_1] rfl qa_ ?_; (with_reducible refine (laws_eqIntS.calls k _ _ l0_1 _ _ l1_1 true _ (cw_ (Kd.C_below HR0_1.out hB_)) HC0_1.out (cw_ (Kd.C_below HR1_1.out hB_)) HC1_1.out A5.out).mono ?_); rintro e w' ⟨rfl, ⟨nd, rfl⟩⟩; refine ⟨_, rfl, ?_⟩))
      go_ret
      exact ⟨qb_, hB_⟩
    · replace c6 := Bool.eq_false_iff.mpr c6
      subst c6
      have H1 : (some false) = some r := by rw [if_neg (show ¬ (false = true) by decide)] at H; exact H
      clear H
      have H := H1
      clear H1
      obtain rfl := Option.some.inj H
      go_enter Try.func35, Try.ntmps35
      go_wp2_with (first | ((with_reducible refine gate_dst (N := 2) rfl ?_); refine bx_ 2 #[.slice A0_0 l0_0.length c0_0, .slice A0_1 l0_1.length c0_1] 33 ?_; intro gb997 hg w12 hbox hb; have BK997 := Aside0.mk hbox; have GW997 := gw_ w hg; have GE997 := GW997; replace HB := b1_ hb; clear hb hbox hg) | ((with_reducible refine gate_dst (N := 3) rfl ?_); refine bx_ 3 #[.slice A1_0 l1_0.length c1_0, .slice A1_1 l1_1.length c1_1] 33 ?_; intro gb998 hg w13 hbox hb; have BK998 := Aside0.mk hbox; have GW998 := gw_ w hg; have GE998 := GW998; replace HB := b1_ hb; have NB997_998 := gN_ BK997 hg; have NB998_997 := gP_ BK997 hg; replace BK997 := bb_ BK997 hb; clear hb hbox hg; have hnb14 := NB997_998.out; have hnc14 := NB998_997.out; obtain ⟨hcz15_0, hcz15_1, hfz15_0, hfz15_1⟩ := c2_ BK997; obtain ⟨hcz16_0, hcz16_1, hfz16_0, hfz16_1⟩ := c2_ BK998) | ((with_reducible refine gate_callee (f := 82) rfl ?_); refine gL_ (some 9) Try.func82 #[.slice A0_0 l0_0.length c0_0, .slice A1_0 l1_0.length c1_0] rfl qa_ ?_; (with_reducible refine (laws_eqIntS.calls k _ _ l0_0 _ _ l1_0 true _ (cb_ HR0_0) HC0_0.out (cb_ HR1_0) HC1_0.out A3.out).mono ?_); rintro e w' ⟨rfl, ⟨nd, rfl⟩⟩; refine ⟨_, rfl, ?_⟩) | ((with_reducible refine gate_callee (f := 82) rfl ?_); refine gL_ (some 15) Try.func82 #[.slice A0_1 l0_1.length c0_1, .slice A1_1 l1_1.length c1_1] rfl qa_ ?_; (with_reducible refine (laws_eqIntS.calls k _ _ l0_1 _ _ l1_1 false _ (cw_ (Kd.C_below HR0_1.out hB_)) HC0_1.out (cw_ (Kd.C_below HR1_1.out hB_)) HC1_1.out A5.out).mono ?_); rintro e w' ⟨rfl, ⟨nd, rfl⟩⟩; refine ⟨_, rfl, ?_⟩))
      go_ret
      exact ⟨qb_, hB_⟩
  · replace c4 := Bool.eq_false_iff.mpr c4
    subst c4
    have H1 : (some false) = some r := by rw [if_neg (show ¬ (false = true) by decide)] at H; exact H
    clear H
    have H := H1
    clear H1
    obtain rfl := Option.some.inj H
    go_enter Try.func35, Try.ntmps35
    go_wp2_with (first | ((with_reducible refine gate_dst (N := 2) rfl ?_); refine bx_ 2 #[.slice A0_0 l0_0.length c0_0, .slice A0_1 l0_1.length c0_1] 33 ?_; intro gb997 hg w17 hbox hb; have BK997 := Aside0.mk hbox; have GW997 := gw_ w hg; have GE997 := GW997; replace HB := b1_ hb; clear hb hbox hg) | ((with_reducible refine gate_dst (N := 3) rfl ?_); refine bx_ 3 #[.slice A1_0 l1_0.length c1_0, .slice A1_1 l1_1.length c1_1] 33 ?_; intro gb998 hg w18 hbox hb; have BK998 := Aside0.mk hbox; have GW998 := gw_ w hg; have GE998 := GW998; replace HB := b1_ hb; have NB997_998 := gN_ BK997 hg; have NB998_997 := gP_ BK997 hg; replace BK997 := bb_ BK997 hb; clear hb hbox hg; have hnb19 := NB997_998.out; have hnc19 := NB998_997.out; obtain ⟨hcz20_0, hcz20_1, hfz20_0, hfz20_1⟩ := c2_ BK997; obtain ⟨hcz21_0, hcz21_1, hfz21_0, hfz21_1⟩ := c2_ BK998) | ((with_reducible refine gate_callee (f := 82) rfl ?_); refine gL_ (some 9) Try.func82 #[.slice A0_0 l0_0.length c0_0, .slice A1_0 l1_0.length c1_0] rfl qa_ ?_; (with_reducible refine (laws_eqIntS.calls k _ _ l0_0 _ _ l1_0 false _ (cb_ HR0_0) HC0_0.out (cb_ HR1_0) HC1_0.out A3.out).mono ?_); rintro e w' ⟨rfl, ⟨nd, rfl⟩⟩; refine ⟨_, rfl, ?_⟩))
    go_ret
    exact ⟨qb_, hB_⟩
end Go.Proofs.Ytoijcallajegfaa.A
end
section
/- What a call made lies apart from what was there. No conditions. -/
namespace Go.Proofs.Ytoijcallajegfaa.M
open Go.RowKit Go.Proofs.YtoijcallajegfaaW.PrintWords Go.Proofs.YtoijcallajegfaaW.PrintLast Go.Proofs.YtoijcallajegfaaW.PrintMore
theorem fresh_R {α : Type} {d : Kd α} {e b b0 : Nat} {w : World} {ok : Nat → Prop} {v : Value} {xs : List α} (h : d.R e w b ok v xs) (hb : b0 ≤ b) : d.R e w b0 (fun k => b ≤ k ∧ k < w.heap.size) v xs :=
  Kd.R_lower (Kd.R_mono (Kd.R_bound h) (fun _ hk => ⟨hk.2.1, hk.2.2.1⟩)) hb
theorem box_store {w0 W : World} {g t : Nat} {cs : Array Value} (hb : W.heap[g]? = some (.cells cs t (0, 0))) (x y : Value) (hB : Below w0.heap.size w0 W) (hg : w0.heap.size ≤ g) :
    ((W.setCell ⟨g, 0, none⟩ x).setCell ⟨g, 1, none⟩ y).heap[g]? = some (.cells ((cs.setIfInBounds 0 x).setIfInBounds 1 y) t (0, 0)) ∧ Kept W ((W.setCell ⟨g, 0, none⟩ x).setCell ⟨g, 1, none⟩ y) (fun k => k = g) ∧ Below w0.heap.size w0 ((W.setCell ⟨g, 0, none⟩ x).setCell ⟨g, 1, none⟩ y) :=
  ⟨blk_set (blk_set hb 0 x) 1 y, Kept.setCell (p := ⟨g, 1, none⟩) (Kept.setCell (p := ⟨g, 0, none⟩) (Kept.refl W (fun k => k = g)) (.inl rfl) x) (.inl rfl) y, below_set (below_set hB hg) hg⟩
end Go.Proofs.Ytoijcallajegfaa.M
end
section
namespace Go.Proofs.Ytoijcallajegfaa.A
open Go.RowKit Go.Proofs.YtoijcallajegfaaW.PrintWords Go.Proofs.YtoijcallajegfaaW.PrintLast Go.Proofs.YtoijcallajegfaaW.PrintMore Go.Proofs.Ytoijcallajegfaa.M
set_option linter.unusedVariables false
set_option linter.unusedSimpArgs false
def laws_FnExactIsFixedBy.F (k : Nat) (l0_0 : List Int) (l0_1 : List Int) (a1 : ByteArray) : Prop := (a1.size : Int) > 1048576 ∨ (¬ (a1.size : Int) > 1048576 ∧ (∃ s0 : Int, laws_szSurface.f l0_0 l0_1 1048576 = some s0 ∧ (s0 < 0 ∨ (¬ s0 < 0 ∧ (∃ (r0 : Bool), laws_toSurface.f k l0_0 l0_1 = some (l0_0, l0_1) ∧ laws_eqSurface.f k l0_0 l0_1 l0_0 l0_1 = some true ∧ spec_IsFixedBy.f k l0_0 l0_1 a1 = some r0 ∧ impl_IsFixedBy.f k l0_0 l0_1 a1 = some r0)))))
set_option maxHeartbeats 8000000 in
set_option maxRecDepth 100000 in
theorem laws_FnExactIsFixedBy.calls (k : Nat) (A0_0 : Option Addr) (c0_0 : Nat) (l0_0 : List Int) (A0_1 : Option Addr) (c0_1 : Nat) (l0_1 : List Int) (a1 : ByteArray) (w : World) (hr0_0 : Kd.C (Kd.int .i64) w A0_0 l0_0.length l0_0) (hc0_0 : l0_0.length ≤ c0_0) (hr0_1 : Kd.C (Kd.int .i64) w A0_1 l0_1.length l0_1) (hc0_1 : l0_1.length ≤ c0_1) (h : laws_FnExactIsFixedBy.F k l0_0 l0_1 a1) :
    Calls Try.prog 5 #[.agg #[.slice A0_0 l0_0.length c0_0, .slice A0_1 l0_1.length c0_1], .string a1] w fun e w' => e = .returned (.bool true) ∧ Below w.heap.size w w' := by
  have hu33 := Try.underlying33
  have hu46 := Try.underlying46
  have HR0_0 := Aside0.mk hr0_0; have HC0_0 := Aside0.mk hc0_0; clear hr0_0 hc0_0
  have HR0_1 := Aside0.mk hr0_1; have HC0_1 := Aside0.mk hc0_1; clear hr0_1 hc0_1
  have HB := Aside0.mk (Below.refl w.heap.size w)
  unfold laws_FnExactIsFixedBy.F at h
  rcases h with hbig | ⟨hbig, h⟩
  · have hb0 : decide ((a1.size : Int) > 1048576) = true := decide_eq_true hbig
    have hb1 : decide (1048576 < (a1.size : Int)) = true := decide_eq_true hbig
    go_enter Try.func5, Try.ntmps5
    go_wp2_with (first | ((with_reducible refine gate_dst (N := 2) rfl ?_); refine bx_ 2 #[.slice A0_0 l0_0.length c0_0, .slice A0_1 l0_1.length c0_1] 46 ?_; intro gbp0 hg w1 hbox hb; have HBo := HB.out; have n_ := Aside0.mk (below_then HBo HBo.size hb); clear HB; have HB := n_; clear n_; have HSw1 := Aside0.mk hb.size; have BKp0 := Aside0.mk hbox; have GIp0 := Aside0.mk (show w.heap.size ≤ gbp0 ∧ gbp0 < w1.heap.size from ⟨by omega, blk_lt hbox⟩); have GEp0 := Aside0.mk (show w.heap.size ≤ gbp0 from by have := HBo.size; omega); clear hb hbox hg HBo; obtain ⟨hczp0_0, hczp0_1, hfzp0_0, hfzp0_1⟩ := c2_ BKp0))
    go_ret
    exact ⟨rfl, HB.out⟩
  have hz1 : decide ((a1.size : Int) > 1048576) = false := decide_eq_false hbig
  have hy1 : decide (1048576 < (a1.size : Int)) = false := decide_eq_false hbig
  clear hbig
  obtain ⟨s0, FZ0, h⟩ := h
  replace FZ0 := Aside0.mk FZ0
  rcases h with hneg | ⟨hneg, h⟩
  · have hq0 : decide (s0 < 0) = true := decide_eq_true hneg
    go_enter Try.func5, Try.ntmps5
    go_upto_region 4 with (first | ((with_reducible refine gate_dst (N := 2) rfl ?_); refine bx_ 2 #[.slice A0_0 l0_0.length c0_0, .slice A0_1 l0_1.length c0_1] 46 ?_; intro gbp0 hg w1 hbox hb; have HBo := HB.out; have n_ := Aside0.mk (below_then HBo HBo.size hb); clear HB; have HB := n_; clear n_; have HSw1 := Aside0.mk hb.size; have BKp0 := Aside0.mk hbox; have GIp0 := Aside0.mk (show w.heap.size ≤ gbp0 ∧ gbp0 < w1.heap.size from ⟨by omega, blk_lt hbox⟩); have GEp0 := Aside0.mk (show w.heap.size ≤ gbp0 from by have := HBo.size; omega); clear hb hbox hg HBo; obtain ⟨hczp0_0, hczp0_1, hfzp0_0, hfzp0_1⟩ := c2_ BKp0))
    go_wp2_with (first | ((with_reducible refine gate_callee (f := 31) rfl ?_); refine goesL_ _ rfl rfl Try.func31 (by kernel_rfl) rfl #[.agg #[.slice A0_0 l0_0.length c0_0, .slice A0_1 l0_1.length c0_1], .int .i64 1048576] rfl (by (try simp only [List.map_toArray, List.map_cons, List.map_nil]); first | done | rfl) ?_; have HBo := HB.out; refine (laws_szSurface.calls A0_0 c0_0 l0_0 A0_1 c0_1 l0_1 1048576 s0 _ (Kd.C_below HR0_0.out HB.out) HC0_0.out (Kd.C_below HR0_1.out HB.out) HC0_1.out FZ0.out).mono ?_; rintro e w2 ⟨rfl, hb0⟩; refine ⟨_, rfl, ?_⟩; clear hczp0_0 hfzp0_0 hczp0_1 hfzp0_1; have n_ := Aside0.mk (blk_below BKp0.out hb0); clear BKp0; have BKp0 := n_; clear n_; have n_ := Aside0.mk (below_then HBo HBo.size hb0); clear HB; have HB := n_; clear n_; have HSw2 := Aside0.mk hb0.size; clear hb0 HBo; obtain ⟨hczp0_0, hczp0_1, hfzp0_0, hfzp0_1⟩ := c2_ BKp0))
    go_ret
    exact ⟨rfl, HB.out⟩
  have hq0 : decide (s0 < 0) = false := decide_eq_false hneg
  clear hneg
  obtain ⟨r0, FS0, FE0, FW, FG⟩ := h
  replace FS0 := Aside0.mk FS0
  replace FE0 := Aside0.mk FE0
  replace FW := Aside0.mk FW
  replace FG := Aside0.mk FG
  go_enter Try.func5, Try.ntmps5
  go_upto_region 4 with (first | ((with_reducible refine gate_dst (N := 2) rfl ?_); refine bx_ 2 #[.slice A0_0 l0_0.length c0_0, .slice A0_1 l0_1.length c0_1] 46 ?_; intro gbp0 hg w1 hbox hb; have HBo := HB.out; have n_ := Aside0.mk (below_then HBo HBo.size hb); clear HB; have HB := n_; clear n_; have HSw1 := Aside0.mk hb.size; have BKp0 := Aside0.mk hbox; have GIp0 := Aside0.mk (show w.heap.size ≤ gbp0 ∧ gbp0 < w1.heap.size from ⟨by omega, blk_lt hbox⟩); have GEp0 := Aside0.mk (show w.heap.size ≤ gbp0 from by have := HBo.size; omega); clear hb hbox hg HBo; obtain ⟨hczp0_0, hczp0_1, hfzp0_0, hfzp0_1⟩ := c2_ BKp0))
  go_upto_region 7 with (first | ((with_reducible refine gate_callee (f := 31) rfl ?_); refine goesL_ _ rfl rfl Try.func31 (by kernel_rfl) rfl #[.agg #[.slice A0_0 l0_0.length c0_0, .slice A0_1 l0_1.length c0_1], .int .i64 1048576] rfl (by (try simp only [List.map_toArray, List.map_cons, List.map_nil]); first | done | rfl) ?_; have HBo := HB.out; refine (laws_szSurface.calls A0_0 c0_0 l0_0 A0_1 c0_1 l0_1 1048576 s0 _ (Kd.C_below HR0_0.out HB.out) HC0_0.out (Kd.C_below HR0_1.out HB.out) HC0_1.out FZ0.out).mono ?_; rintro e w2 ⟨rfl, hb0⟩; refine ⟨_, rfl, ?_⟩; clear hczp0_0 hfzp0_0 hczp0_1 hfzp0_1; have n_ := Aside0.mk (blk_below BKp0.out hb0); clear BKp0; have BKp0 := n_; clear n_; have n_ := Aside0.mk (below_then HBo HBo.size hb0); clear HB; have HB := n_; clear n_; have HSw2 := Aside0.mk hb0.size; clear hb0 HBo; obtain ⟨hczp0_0, hczp0_1, hfzp0_0, hfzp0_1⟩ := c2_ BKp0))
  go_upto_region 8 with (first | ((with_reducible refine gate_callee (f := 33) rfl ?_); refine goesL_ _ rfl rfl Try.func33 (by kernel_rfl) rfl #[.agg #[.slice A0_0 l0_0.length c0_0, .slice A0_1 l0_1.length c0_1]] rfl (by (try simp only [List.map_toArray, List.map_cons, List.map_nil]); first | done | rfl) ?_; have HBo := HB.out; refine (laws_toSurface.calls k A0_0 c0_0 l0_0 A0_1 c0_1 l0_1 l0_0 l0_1 _ (Kd.C_below HR0_0.out HB.out) HC0_0.out (Kd.C_below HR0_1.out HB.out) HC0_1.out FS0.out).mono ?_; rintro e w3 ⟨v0_, v1_, rfl, h0_, h1_, hb0⟩; refine ⟨_, rfl, ?_⟩; clear hczp0_0 hfzp0_0 hczp0_1 hfzp0_1; have n_ := Aside0.mk (blk_below BKp0.out hb0); clear BKp0; have BKp0 := n_; clear n_; have n_ := Aside0.mk (below_then HBo HBo.size hb0); clear HB; have HB := n_; clear n_; have HSw3 := Aside0.mk hb0.size; have NE1 := Aside0.mk h0_.1; have Hx1a := Aside0.mk (fresh_R (b0 := w.heap.size) h0_ HBo.size); clear h0_; obtain ⟨Ax1a, cx1a, ex1a⟩ := Kd.R_slice Hx1a.out; subst ex1a; have Hx1b := Aside0.mk (fresh_R (b0 := w.heap.size) h1_ HBo.size); clear h1_; obtain ⟨Ax1b, cx1b, ex1b⟩ := Kd.R_slice Hx1b.out; subst ex1b; clear hb0 HBo; obtain ⟨hczp0_0, hczp0_1, hfzp0_0, hfzp0_1⟩ := c2_ BKp0) | ((with_reducible refine gate_callee (f := 32) rfl ?_); refine goesL_ _ rfl rfl Try.func32 (by kernel_rfl) rfl #[.agg #[.slice Ax1a l0_0.length cx1a, .slice Ax1b l0_1.length cx1b], .string a1] rfl (by (try simp only [List.map_toArray, List.map_cons, List.map_nil]); first | done | rfl) ?_; have HBo := HB.out; refine (spec_IsFixedBy.calls k Ax1a cx1a l0_0 Ax1b cx1b l0_1 a1 r0 _ (Kd.R_reads' Hx1a.out).2.2 (Kd.R_reads' Hx1a.out).2.1 (Kd.R_reads' Hx1b.out).2.2 (Kd.R_reads' Hx1b.out).2.1 FW.out).mono ?_; rintro e w4 ⟨rfl, hb0⟩; refine ⟨_, rfl, ?_⟩; clear hczp0_0 hfzp0_0 hczp0_1 hfzp0_1; have n_ := Aside0.mk (blk_below BKp0.out hb0); clear BKp0; have BKp0 := n_; clear n_; have n_ := Aside0.mk (Kd.R_below Hx1a.out hb0); clear Hx1a; have Hx1a := n_; clear n_; have n_ := Aside0.mk (Kd.R_below Hx1b.out hb0); clear Hx1b; have Hx1b := n_; clear n_; have n_ := Aside0.mk (below_then HBo HBo.size hb0); clear HB; have HB := n_; clear n_; have HSw4 := Aside0.mk hb0.size; clear hb0 HBo; obtain ⟨hczp0_0, hczp0_1, hfzp0_0, hfzp0_1⟩ := c2_ BKp0; clear Hx1a Hx1b))
  go_upto_region 9 with (first | ((with_reducible refine gate_callee (f := 33) rfl ?_); refine goesL_ _ rfl rfl Try.func33 (by kernel_rfl) rfl #[.agg #[.slice A0_0 l0_0.length c0_0, .slice A0_1 l0_1.length c0_1]] rfl (by (try simp only [List.map_toArray, List.map_cons, List.map_nil]); first | done | rfl) ?_; have HBo := HB.out; refine (laws_toSurface.calls k A0_0 c0_0 l0_0 A0_1 c0_1 l0_1 l0_0 l0_1 _ (Kd.C_below HR0_0.out HB.out) HC0_0.out (Kd.C_below HR0_1.out HB.out) HC0_1.out FS0.out).mono ?_; rintro e w5 ⟨v0_, v1_, rfl, h0_, h1_, hb0⟩; refine ⟨_, rfl, ?_⟩; clear hczp0_0 hfzp0_0 hczp0_1 hfzp0_1; have n_ := Aside0.mk (blk_below BKp0.out hb0); clear BKp0; have BKp0 := n_; clear n_; have n_ := Aside0.mk (below_then HBo HBo.size hb0); clear HB; have HB := n_; clear n_; have HSw5 := Aside0.mk hb0.size; have NE2 := Aside0.mk h0_.1; have Hx2a := Aside0.mk (fresh_R (b0 := w.heap.size) h0_ HBo.size); clear h0_; obtain ⟨Ax2a, cx2a, ex2a⟩ := Kd.R_slice Hx2a.out; subst ex2a; have Hx2b := Aside0.mk (fresh_R (b0 := w.heap.size) h1_ HBo.size); clear h1_; obtain ⟨Ax2b, cx2b, ex2b⟩ := Kd.R_slice Hx2b.out; subst ex2b; clear hb0 HBo; obtain ⟨hczp0_0, hczp0_1, hfzp0_0, hfzp0_1⟩ := c2_ BKp0) | ((with_reducible refine gate_dst (N := 7) rfl ?_); refine bx_ 7 #[.slice none 0 0, .slice none 0 0] 33 ?_; intro gbx0 hg w6 hbox hb; clear hczp0_0 hfzp0_0 hczp0_1 hfzp0_1; have HBo := HB.out; have n_ := Aside0.mk (blk_below BKp0.out hb); clear BKp0; have BKp0 := n_; clear n_; have n_ := Aside0.mk (Kd.R_below Hx2a.out hb); clear Hx2a; have Hx2a := n_; clear n_; have n_ := Aside0.mk (Kd.R_below Hx2b.out hb); clear Hx2b; have Hx2b := n_; clear n_; have n_ := Aside0.mk (below_then HBo HBo.size hb); clear HB; have HB := n_; clear n_; have HSw6 := Aside0.mk hb.size; have BKx0 := Aside0.mk hbox; have GIx0 := Aside0.mk (show w5.heap.size ≤ gbx0 ∧ gbx0 < w6.heap.size from ⟨by omega, blk_lt hbox⟩); have GEx0 := Aside0.mk (show w.heap.size ≤ gbx0 from by have := HBo.size; omega); clear hb hbox hg HBo; obtain ⟨hczp0_0, hczp0_1, hfzp0_0, hfzp0_1⟩ := c2_ BKp0; obtain ⟨hczx0_0, hczx0_1, hfzx0_0, hfzx0_1⟩ := c2_ BKx0) | ((with_reducible refine gate_store (t := 33) (p := 7) rfl ?_); refine store_event (t := 33) (p := 7) (v := ?vo) (w1 := ((w6.setCell ⟨gbx0, 0, none⟩ (.slice Ax2a l0_0.length cx2a)).setCell ⟨gbx0, 1, none⟩ (.slice Ax2b l0_1.length cx2b))) ?hg ?ho ?hn ?hr ?_; (case ho => rfl); (case hg => rfl); (case hn => rfl); (case hr => first | (go_simp; done) | (go_simp; rfl)); intro wq hw; subst hw; obtain ⟨hbox, hkp, hB2⟩ := box_store BKx0.out (.slice Ax2a l0_0.length cx2a) (.slice Ax2b l0_1.length cx2b) HB.out GEx0.out; generalize hw : ((w6.setCell ⟨gbx0, 0, none⟩ (.slice Ax2a l0_0.length cx2a)).setCell ⟨gbx0, 1, none⟩ (.slice Ax2b l0_1.length cx2b)) = w7 at hbox hkp hB2 ⊢; clear hw; clear hczp0_0 hfzp0_0 hczp0_1 hfzp0_1 hczx0_0 hfzx0_0 hczx0_1 hfzx0_1; have n_ := Aside0.mk (blk_kept (g := gbp0) BKp0.out hkp (fun hs => by have hk := GIp0.out; have := hk.1; have := hk.2; have := GIx0.out; have := HSw1.out; have := HSw2.out; have := HSw3.out; have := HSw4.out; have := HSw5.out; have := HSw6.out; omega)); clear BKp0; have BKp0 := n_; clear n_; have n_ := Aside0.mk (Kd.R_kept Hx2a.out hkp (fun k_ hk hs => by have := hk.1; have := hk.2; have := GIx0.out; have := HSw1.out; have := HSw2.out; have := HSw3.out; have := HSw4.out; have := HSw5.out; have := HSw6.out; omega)); clear Hx2a; have Hx2a := n_; clear n_; have n_ := Aside0.mk (Kd.R_kept Hx2b.out hkp (fun k_ hk hs => by have := hk.1; have := hk.2; have := GIx0.out; have := HSw1.out; have := HSw2.out; have := HSw3.out; have := HSw4.out; have := HSw5.out; have := HSw6.out; omega)); clear Hx2b; have Hx2b := n_; clear n_; have n_ := Aside0.mk (hB2); clear HB; have HB := n_; clear n_; have HSw7 := Aside0.mk hkp.1; clear BKx0; have BKx0 := Aside0.mk (show w7.heap[gbx0]? = some (.cells #[.slice Ax2a l0_0.length cx2a, .slice Ax2b l0_1.length cx2b] 33 (0, 0)) from hbox); clear hbox hkp hB2; obtain ⟨hczp0_0, hczp0_1, hfzp0_0, hfzp0_1⟩ := c2_ BKp0; obtain ⟨hczx0_0, hczx0_1, hfzx0_0, hfzx0_1⟩ := c2_ BKx0))
  go_upto_region 12 with (first | ((with_reducible refine gate_callee (f := 34) rfl ?_); refine goesL_ _ rfl rfl Try.func34 (by kernel_rfl) rfl #[.agg #[.slice Ax2a l0_0.length cx2a, .slice Ax2b l0_1.length cx2b], .string a1] rfl (by (try simp only [List.map_toArray, List.map_cons, List.map_nil]); first | done | rfl) ?_; have HBo := HB.out; refine (impl_IsFixedBy.calls k Ax2a cx2a l0_0 Ax2b cx2b l0_1 a1 r0 _ (Kd.R_reads' Hx2a.out).2.2 (Kd.R_reads' Hx2a.out).2.1 (Kd.R_reads' Hx2b.out).2.2 (Kd.R_reads' Hx2b.out).2.1 FG.out).mono ?_; rintro e w8 ⟨rfl, hb0⟩; refine ⟨_, rfl, ?_⟩; clear hczp0_0 hfzp0_0 hczp0_1 hfzp0_1 hczx0_0 hfzx0_0 hczx0_1 hfzx0_1; have n_ := Aside0.mk (blk_below BKp0.out hb0); clear BKp0; have BKp0 := n_; clear n_; have n_ := Aside0.mk (Kd.R_below Hx2a.out hb0); clear Hx2a; have Hx2a := n_; clear n_; have n_ := Aside0.mk (Kd.R_below Hx2b.out hb0); clear Hx2b; have Hx2b := n_; clear n_; have n_ := Aside0.mk (blk_below BKx0.out hb0); clear BKx0; have BKx0 := n_; clear n_; have n_ := Aside0.mk (below_then HBo HBo.size hb0); clear HB; have HB := n_; clear n_; have HSw8 := Aside0.mk hb0.size; clear hb0 HBo; obtain ⟨hczp0_0, hczp0_1, hfzp0_0, hfzp0_1⟩ := c2_ BKp0; obtain ⟨hczx0_0, hczx0_1, hfzx0_0, hfzx0_1⟩ := c2_ BKx0))
  clear hczp0_0 hfzp0_0 hczp0_1 hfzp0_1 hczx0_0 hfzx0_0 hczx0_1 hfzx0_1
  have n_ := Aside0.mk (blk_drew BKp0.out)
  clear BKp0
  have BKp0 := n_
  clear n_
  have n_ := Aside0.mk (Kd.R_drew Hx2a.out)
  clear Hx2a
  have Hx2a := n_
  clear n_
  have n_ := Aside0.mk (Kd.R_drew Hx2b.out)
  clear Hx2b
  have Hx2b := n_
  clear n_
  have n_ := Aside0.mk (blk_drew BKx0.out)
  clear BKx0
  have BKx0 := n_
  clear n_
  have n_ := Aside0.mk (below_drew1 HB.out)
  clear HB
  have HB := n_
  clear n_
  have HSw10 := Aside0.mk (show w8.heap.size ≤ w8.drew.heap.size from Nat.le_refl _)
  refine start_ (n := 5) (S := fun w' => w'.cell? ⟨gbp0, 0, none⟩ = some (.slice A0_0 l0_0.length c0_0) ∧ w'.cell? ⟨gbp0, 1, none⟩ = some (.slice A0_1 l0_1.length c0_1) ∧ w'.cell? ⟨gbx0, 0, none⟩ = some (.slice Ax2a l0_0.length cx2a) ∧ w'.cell? ⟨gbx0, 1, none⟩ = some (.slice Ax2b l0_1.length cx2b)) (ds := []) (bl_ 5 0) (by kernel_rfl) rfl (by kernel_rfl) ⟨cz0_ BKp0, cz1_ BKp0, cz0_ BKx0, cz1_ BKx0⟩ (fun hHeld => ?_)
  generalize hwd : w8.drew = w10 at BKp0 Hx2a Hx2b BKx0 HB HSw10 hHeld ⊢
  clear hwd
  refine take_ (i := 0) (N := some 29) (v := ?_) (a' := ?_) (bl_ 5 1) rfl rfl (by kernel_rfl) (fun _ _ _ h => h) (Or.inl ⟨by rfl, ?_⟩) hHeld ?_ ?_
  rotate_left
  · rintro w' ⟨s0, s1, s2, s3⟩
    go_simp
    with_reducible rfl
  rotate_left
  · simp only [Act.put, List.setIfInBounds_toArray, List.set_cons_zero, List.set_cons_succ, i64_w, i32_w]
    rfl
  refine take_ (i := 1) (N := some 30) (v := ?_) (a' := ?_) (bl_ 5 3) rfl rfl (by kernel_rfl) (fun _ _ _ h => h) (Or.inl ⟨by rfl, ?_⟩) hHeld ?_ ?_
  rotate_left
  · rintro w' ⟨s0, s1, s2, s3⟩
    go_simp
    with_reducible rfl
  rotate_left
  · simp only [Act.put, List.setIfInBounds_toArray, List.set_cons_zero, List.set_cons_succ, i64_w, i32_w]
    rfl
  refine one_ (i := 2) (N := some 31) (bl_ 5 7) rfl rfl (by kernel_rfl) (by decide) (fun K hK => ?_)
  replace hK := Aside0.mk hK
  refine gO_ Try.func33 #[.agg #[.slice A0_0 l0_0.length c0_0, .slice A0_1 l0_1.length c0_1]] (by rfl) rfl rfl (by (try simp only [List.map_toArray, List.map_cons, List.map_nil]); first | done | rfl) ?_
  have HBo := HB.out
  refine (laws_toSurface.calls k A0_0 c0_0 l0_0 A0_1 c0_1 l0_1 l0_0 l0_1 _ (Kd.C_below HR0_0.out HB.out) HC0_0.out (Kd.C_below HR0_1.out HB.out) HC0_1.out FS0.out).mono ?_
  rintro e w11 ⟨v0_, v1_, rfl, h0_, h1_, hb0⟩
  refine ⟨_, rfl, ?_⟩
  clear hHeld
  have n_ := Aside0.mk (blk_below BKp0.out hb0)
  clear BKp0
  have BKp0 := n_
  clear n_
  have n_ := Aside0.mk (Kd.R_below Hx2a.out hb0)
  clear Hx2a
  have Hx2a := n_
  clear n_
  have n_ := Aside0.mk (Kd.R_below Hx2b.out hb0)
  clear Hx2b
  have Hx2b := n_
  clear n_
  have n_ := Aside0.mk (blk_below BKx0.out hb0)
  clear BKx0
  have BKx0 := n_
  clear n_
  have n_ := Aside0.mk (below_then HBo HBo.size hb0)
  clear HB
  have HB := n_
  clear n_
  have HSw11 := Aside0.mk hb0.size
  have NE3 := Aside0.mk h0_.1
  have Hx3a := Aside0.mk (fresh_R (b0 := w.heap.size) h0_ HBo.size)
  clear h0_
  obtain ⟨Ax3a, cx3a, ex3a⟩ := Kd.R_slice Hx3a.out
  subst ex3a
  have Hx3b := Aside0.mk (fresh_R (b0 := w.heap.size) h1_ HBo.size)
  clear h1_
  obtain ⟨Ax3b, cx3b, ex3b⟩ := Kd.R_slice Hx3b.out
  subst ex3b
  clear hb0 HBo
  refine hK.out _ _ ⟨cz0_ BKp0, cz1_ BKp0, cz0_ BKx0, cz1_ BKx0⟩ (fun hHeld => ?_)
  clear hK K
  refine no_ (some 31) ?_
  refine one_ (i := 3) (N := some 32) (bl_ 5 15) rfl rfl (by kernel_rfl) (by decide) (fun K hK => ?_)
  replace hK := Aside0.mk hK
  refine gO_ Try.func35 #[.agg #[.slice Ax2a l0_0.length cx2a, .slice Ax2b l0_1.length cx2b], .agg #[.slice Ax3a l0_0.length cx3a, .slice Ax3b l0_1.length cx3b]] (by rfl) rfl rfl (by (try simp only [List.map_toArray, List.map_cons, List.map_nil]); first | done | rfl) ?_
  have HBo := HB.out
  refine (laws_eqSurface.calls k Ax2a cx2a l0_0 Ax2b cx2b l0_1 Ax3a cx3a l0_0 Ax3b cx3b l0_1 true _ (Kd.R_reads' Hx2a.out).2.2 (Kd.R_reads' Hx2a.out).2.1 (Kd.R_reads' Hx2b.out).2.2 (Kd.R_reads' Hx2b.out).2.1 (Kd.R_reads' Hx3a.out).2.2 (Kd.R_reads' Hx3a.out).2.1 (Kd.R_reads' Hx3b.out).2.2 (Kd.R_reads' Hx3b.out).2.1 FE0.out).mono ?_
  rintro e w12 ⟨rfl, hb0⟩
  refine ⟨_, rfl, ?_⟩
  clear hHeld
  have n_ := Aside0.mk (blk_below BKp0.out hb0)
  clear BKp0
  have BKp0 := n_
  clear n_
  have n_ := Aside0.mk (Kd.R_below Hx2a.out hb0)
  clear Hx2a
  have Hx2a := n_
  clear n_
  have n_ := Aside0.mk (Kd.R_below Hx2b.out hb0)
  clear Hx2b
  have Hx2b := n_
  clear n_
  have n_ := Aside0.mk (blk_below BKx0.out hb0)
  clear BKx0
  have BKx0 := n_
  clear n_
  have n_ := Aside0.mk (Kd.R_below Hx3a.out hb0)
  clear Hx3a
  have Hx3a := n_
  clear n_
  have n_ := Aside0.mk (Kd.R_below Hx3b.out hb0)
  clear Hx3b
  have Hx3b := n_
  clear n_
  have n_ := Aside0.mk (below_then HBo HBo.size hb0)
  clear HB
  have HB := n_
  clear n_
  have HSw12 := Aside0.mk hb0.size
  clear hb0 HBo
  refine hK.out _ _ ⟨cz0_ BKp0, cz1_ BKp0, cz0_ BKx0, cz1_ BKx0⟩ (fun hHeld => ?_)
  clear hK K
  refine no_ (some 32) ?_
  refine pure_ (i := 4) (N := some 33) (v := ?_) (a' := ?_) (bl_ 5 31) rfl rfl (by kernel_rfl) (fun _ _ _ h => h) (Or.inl ⟨by rfl, ?_⟩) ?_ ?_
  rotate_left
  · intro w'
    go_simp
    with_reducible rfl
  rotate_left
  · simp only [Act.put, List.setIfInBounds_toArray, List.set_cons_zero, List.set_cons_succ, i64_w, i32_w]
    rfl
  refine done_ (by kernel_rfl) ?_
  clear hHeld
  obtain ⟨hczp0_0, hczp0_1, hfzp0_0, hfzp0_1⟩ := c2_ BKp0
  obtain ⟨hczx0_0, hczx0_1, hfzx0_0, hfzx0_1⟩ := c2_ BKx0
  clear Hx3a Hx3b
  go_wp2
  go_ret
  exact ⟨rfl, HB.out⟩
end Go.Proofs.Ytoijcallajegfaa.A
end
section
/- Plain mathematics: permutations as lists of numbers. No conditions. -/
namespace Go.Proofs.Ytoijcallajegfaa.M
set_option linter.unusedVariables false
set_option linter.unusedSimpArgs false
def I (l : List Nat) : List Int := l.map Int.ofNat
def g (p : List Nat) (i : Nat) : Nat := p.getD i 0
def tab (n : Nat) (f : Nat → Nat) : List Nat := (List.range n).map f
theorem I_len (l : List Nat) : (I l).length = l.length := by simp [I]
theorem I_inj {a b : List Nat} (h : I a = I b) : a = b := by
  unfold I at h
  exact (List.map_inj_right (fun x y hxy => Int.ofNat.inj hxy)).mp h
theorem tab_len (n : Nat) (f : Nat → Nat) : (tab n f).length = n := by simp [tab]
theorem g_tab {n : Nat} {f : Nat → Nat} {i : Nat} (h : i < n) : g (tab n f) i = f i := by simp [g, tab, List.getD_eq_getElem?_getD, h]
theorem g_get {p : List Nat} {i : Nat} (h : i < p.length) : g p i = p[i] := by simp [g, List.getD_eq_getElem?_getD, h]
theorem g_mem {p : List Nat} {i : Nat} (h : i < p.length) : g p i ∈ p := by rw [g_get h]; exact List.getElem_mem h
theorem mem_g {p : List Nat} {x : Nat} (h : x ∈ p) : ∃ i, i < p.length ∧ g p i = x := by
  obtain ⟨i, hi, rfl⟩ := List.mem_iff_getElem.mp h
  exact ⟨i, hi, g_get hi⟩
theorem ext_g {a b : List Nat} (hl : a.length = b.length) (h : ∀ i, i < a.length → g a i = g b i) : a = b := by
  apply List.ext_getElem hl
  intro i h1 h2
  rw [← g_get h1, ← g_get h2]
  exact h i h1
theorem eq_tab {l : List Nat} {n : Nat} {f : Nat → Nat} (hl : l.length = n) (h : ∀ i, i < n → g l i = f i) : l = tab n f :=
  ext_g (by rw [tab_len, hl]) (fun i hi => by rw [hl] at hi; rw [g_tab hi, h i hi])
theorem g_set {p : List Nat} {i x j : Nat} (h : i < p.length) : g (p.set i x) j = if i = j then x else g p j := by
  unfold g
  rw [List.getD_eq_getElem?_getD, List.getD_eq_getElem?_getD, List.getElem?_set]
  by_cases e : i = j
  · subst e
    simp [h]
  · simp [e]
theorem I_set (p : List Nat) (i x : Nat) : (I p).set i (x : Int) = I (p.set i x) := by simp [I, List.map_set]
theorem I_snoc (p : List Nat) (x : Nat) : I p ++ [(x : Int)] = I (p ++ [x]) := by simp [I]
theorem I_rep (n x : Nat) : I (List.replicate n x) = List.replicate n (x : Int) := by simp [I]
structure IsP (p : List Nat) : Prop where
  lt : ∀ x ∈ p, x < p.length
  nd : p.Nodup
instance (p : List Nat) : Decidable (IsP p) := decidable_of_iff ((∀ x ∈ p, x < p.length) ∧ p.Nodup) ⟨fun h => ⟨h.1, h.2⟩, fun h => ⟨h.lt, h.nd⟩⟩
theorem nodup_le (n : Nat) : ∀ l : List Nat, l.Nodup → (∀ x ∈ l, x < n) → l.length ≤ n := by
  induction n with
  | zero =>
    intro l _ h
    cases l with
    | nil => simp
    | cons a l => exact absurd (h a (by simp)) (by omega)
  | succ n ih =>
    intro l hn h
    have h1 := ih (l.erase n) (hn.erase n) (fun x hx => by
      have h2 := (List.Nodup.mem_erase_iff hn).mp hx
      have h3 := h x h2.2
      have h4 := h2.1
      omega)
    have h5 := @List.length_erase _ _ _ n l
    split at h5 <;> omega
theorem mem_all {p : List Nat} (hp : IsP p) {x : Nat} (h : x < p.length) : x ∈ p := by
  apply Classical.byContradiction
  intro hx
  have := nodup_le p.length (x :: p) (List.nodup_cons.mpr ⟨hx, hp.nd⟩) (fun y hy => by
    rcases List.mem_cons.mp hy with rfl | hy
    · exact h
    · exact hp.lt y hy)
  simp at this
  omega
theorem g_lt {p : List Nat} (hp : IsP p) {i : Nat} (h : i < p.length) : g p i < p.length := hp.lt _ (g_mem h)
theorem g_inj {p : List Nat} (hp : IsP p) {i j : Nat} (hi : i < p.length) (hj : j < p.length) (h : g p i = g p j) : i = j := by
  rw [g_get hi, g_get hj] at h
  have hw := List.pairwise_iff_getElem.mp hp.nd
  rcases Nat.lt_trichotomy i j with hij | hij | hij
  · exact absurd h (hw i j hi hj hij)
  · exact hij
  · exact absurd h.symm (hw j i hj hi hij)
def ix (p : List Nat) (x : Nat) : Nat := p.idxOf x
theorem ix_lt {p : List Nat} (hp : IsP p) {x : Nat} (h : x < p.length) : ix p x < p.length := List.idxOf_lt_length_of_mem (mem_all hp h)
theorem g_ix {p : List Nat} (hp : IsP p) {x : Nat} (h : x < p.length) : g p (ix p x) = x := by
  rw [g_get (ix_lt hp h)]
  exact List.getElem_idxOf (ix_lt hp h)
theorem ix_g {p : List Nat} (hp : IsP p) {i : Nat} (h : i < p.length) : ix p (g p i) = i :=
  g_inj hp (ix_lt hp (g_lt hp h)) h (g_ix hp (g_lt hp h))
theorem isP_mk {p : List Nat} (h1 : ∀ i, i < p.length → g p i < p.length) (h2 : ∀ i j, i < p.length → j < p.length → g p i = g p j → i = j) : IsP p := by
  refine ⟨fun x hx => ?_, ?_⟩
  · obtain ⟨i, hi, rfl⟩ := mem_g hx
    exact h1 i hi
  · refine List.pairwise_iff_getElem.mpr ?_
    intro i j hi hj hij e'
    rw [← g_get hi, ← g_get hj] at e'
    have := h2 i j hi hj e'
    omega
theorem isP_tab {n : Nat} {f : Nat → Nat} (h1 : ∀ i, i < n → f i < n) (h2 : ∀ i j, i < n → j < n → f i = f j → i = j) : IsP (tab n f) := by
  refine isP_mk (fun i hi => ?_) (fun i j hi hj e => ?_)
  · rw [tab_len] at hi ⊢; rw [g_tab hi]; exact h1 i hi
  · rw [tab_len] at hi hj; rw [g_tab hi, g_tab hj] at e; exact h2 i j hi hj e
def inv (p : List Nat) : List Nat := tab p.length (ix p)
theorem inv_len (p : List Nat) : (inv p).length = p.length := tab_len _ _
theorem g_inv {p : List Nat} {i : Nat} (h : i < p.length) : g (inv p) i = ix p i := g_tab h
theorem isP_inv {p : List Nat} (hp : IsP p) : IsP (inv p) := isP_tab (fun i hi => ix_lt hp hi) (fun i j hi hj e => by rw [← g_ix hp hi, ← g_ix hp hj, e])
def thn (p q : List Nat) : List Nat := tab p.length (fun i => g q (g p i))
theorem thn_len (p q : List Nat) : (thn p q).length = p.length := tab_len _ _
theorem g_thn {p q : List Nat} {i : Nat} (h : i < p.length) : g (thn p q) i = g q (g p i) := g_tab h
theorem isP_thn {p q : List Nat} (hp : IsP p) (hq : IsP q) (hl : p.length = q.length) : IsP (thn p q) :=
  isP_tab (fun i hi => by have h1 := g_lt hp hi; have h2 := g_lt hq (i := g p i) (by omega); omega)
    (fun i j hi hj e => g_inj hp hi hj (g_inj hq (by have := g_lt hp hi; omega) (by have := g_lt hp hj; omega) e))
def ren (p names : List Nat) : List Nat := tab p.length (fun j => g names (g p (ix names j)))
theorem ren_len (p names : List Nat) : (ren p names).length = p.length := tab_len _ _
theorem g_ren {p names : List Nat} {j : Nat} (h : j < p.length) : g (ren p names) j = g names (g p (ix names j)) := g_tab h
end Go.Proofs.Ytoijcallajegfaa.M
end
section
/- Plain mathematics: permutations of whole numbers, and what is reached by two of them. No conditions. -/
namespace Go.Proofs.Ytoijcallajegfaa.M
set_option linter.unusedVariables false
set_option linter.unusedSimpArgs false
open Go.RowKit Go.Proofs.YtoijcallajegfaaW.PrintWords Go.Proofs.YtoijcallajegfaaW.PrintLast Go.Proofs.YtoijcallajegfaaW.PrintMore
theorem w64 {x : Int} (h0 : -9223372036854775808 ≤ x) (h1 : x ≤ 9223372036854775807) : wrap64 x = x := by unfold wrap64; omega
theorem w64s (i : Nat) (h : i ≤ 9000000000000000000) : wrap64 ((i : Int) + 1) = ((i + 1 : Nat) : Int) := by rw [w64 (by omega) (by omega)]; omega
theorem ev_succ {α : Type} {f : Nat → Option α} {r : α} (h : Ev (fun k => f (k + 1)) r) : Ev f r := Ev.step (fun _ => rfl) h
theorem rdI (p : List Nat) (i : Nat) : rd (I p) (i : Int) = ((g p i : Nat) : Int) := by
  unfold rd g I
  simp only [Int.toNat_natCast, List.getD_eq_getElem?_getD, List.getElem?_map]
  cases p[i]? <;> rfl
theorem rd_get (l : List Int) (i : Nat) (h : i < l.length) : rd l (i : Int) = l[i] := by
  unfold rd
  simp [List.getD_eq_getElem?_getD, h]
theorem mem_I {p : List Nat} {x : Nat} : (x : Int) ∈ I p ↔ x ∈ p := by
  unfold I
  constructor
  · intro h
    obtain ⟨y, hy, e⟩ := List.mem_map.mp h
    have : y = x := Int.ofNat.inj e
    exact this ▸ hy
  · intro h
    exact List.mem_map.mpr ⟨x, h, rfl⟩
def PI (l : List Int) : Prop := l.length ≤ 24 ∧ (∀ x ∈ l, 0 ≤ x ∧ x < (l.length : Int)) ∧ l.Nodup
instance : DecidablePred PI := fun l => by unfold PI; infer_instance
def permB (l : List Int) : Bool := decide (PI l)
def N (l : List Int) : List Nat := l.map Int.toNat
theorem N_I (p : List Nat) : N (I p) = p := by
  unfold N I
  rw [List.map_map]
  exact List.map_id'' (fun x => rfl) p
theorem N_len (l : List Int) : (N l).length = l.length := by simp [N]
theorem I_N {l : List Int} (h : ∀ x ∈ l, 0 ≤ x) : I (N l) = l := by
  unfold N I
  rw [List.map_map]
  conv => rhs; rw [← List.map_id l]
  apply List.map_congr_left
  intro x hx
  have := h x hx
  simp only [Function.comp, id]
  show ((x.toNat : Nat) : Int) = x
  omega
theorem PI_nat {l : List Int} (h : PI l) : ∃ p, l = I p ∧ IsP p ∧ p.length ≤ 24 := by
  obtain ⟨h1, h2, h3⟩ := h
  refine ⟨N l, (I_N (fun x hx => (h2 x hx).1)).symm, ?_, by rw [N_len]; exact h1⟩
  have e := I_N (fun x hx => (h2 x hx).1)
  refine ⟨fun x hx => ?_, ?_⟩
  · have := (h2 (x : Int) (by rw [← e]; exact mem_I.mpr hx)).2
    rw [N_len]
    omega
  · rw [← e] at h3
    unfold I at h3
    exact (List.pairwise_map.mp h3).imp (fun {a b} hab hh => hab (by rw [hh]))
theorem PI_I {p : List Nat} : PI (I p) ↔ IsP p ∧ p.length ≤ 24 := by
  constructor
  · intro h
    obtain ⟨q, e, h1, h2⟩ := PI_nat h
    have := I_inj e
    subst this
    exact ⟨h1, h2⟩
  · intro ⟨h1, h2⟩
    refine ⟨by rw [I_len]; exact h2, fun x hx => ?_, ?_⟩
    · unfold I at hx
      obtain ⟨y, hy, rfl⟩ := List.mem_map.mp hx
      have := h1.lt y hy
      rw [I_len]
      exact ⟨Int.natCast_nonneg y, Int.ofNat_lt.mpr this⟩
    · unfold I
      exact List.pairwise_map.mpr (h1.nd.imp (fun {a b} hab hh => hab (Int.ofNat.inj hh)))
theorem permB_I {p : List Nat} : permB (I p) = true ↔ IsP p ∧ p.length ≤ 24 := by
  unfold permB
  rw [decide_eq_true_iff]
  exact PI_I
def okFrom (l : List Int) (i : Nat) : Prop := ∀ j : Nat, i ≤ j → j < l.length → 0 ≤ rd l (j : Int) ∧ rd l (j : Int) < (l.length : Int) ∧ rd l (j : Int) ∉ l.take j
theorem okFrom_end (l : List Int) (i : Nat) (h : l.length ≤ i) : okFrom l i := fun j h1 h2 => by omega
theorem okFrom_step {l : List Int} {i : Nat} (h : 0 ≤ rd l (i : Int) ∧ rd l (i : Int) < (l.length : Int) ∧ rd l (i : Int) ∉ l.take i) : okFrom l i ↔ okFrom l (i + 1) := by
  constructor
  · intro k j h1 h2
    exact k j (by omega) h2
  · intro k j h1 h2
    by_cases e : j = i
    · subst e
      exact h
    · exact k j (by omega) h2
theorem okFrom_not {l : List Int} {i : Nat} (hi : i < l.length) (h : ¬ (0 ≤ rd l (i : Int) ∧ rd l (i : Int) < (l.length : Int) ∧ rd l (i : Int) ∉ l.take i)) : ¬ okFrom l i := fun k => h (k i (Nat.le_refl _) hi)
theorem okFrom_PI {l : List Int} (h : l.length ≤ 24) : okFrom l 0 ↔ PI l := by
  constructor
  · intro k
    refine ⟨h, fun x hx => ?_, ?_⟩
    · obtain ⟨i, hi, rfl⟩ := List.mem_iff_getElem.mp hx
      have := k i (Nat.zero_le _) hi
      rw [rd_get l i hi] at this
      exact ⟨this.1, this.2.1⟩
    · refine List.pairwise_iff_getElem.mpr ?_
      intro i j hi hj hij e
      have := (k j (Nat.zero_le _) hj).2.2
      rw [rd_get l j hj, ← e] at this
      exact this (List.mem_take_iff_getElem.mpr ⟨i, by omega, rfl⟩)
  · intro ⟨_, h2, h3⟩ j _ hj
    rw [rd_get l j hj]
    refine ⟨(h2 _ (List.getElem_mem hj)).1, (h2 _ (List.getElem_mem hj)).2, fun hm => ?_⟩
    obtain ⟨i, hi, e⟩ := List.mem_take_iff_getElem.mp hm
    exact List.pairwise_iff_getElem.mp h3 i j (by omega) hj (by omega) e
theorem permB_of {l : List Int} {b : Bool} (h : l.length ≤ 24) (hb : b = true ↔ okFrom l 0) : b = permB l := by
  rw [Bool.eq_iff_iff, hb, okFrom_PI h]
  unfold permB
  rw [decide_eq_true_iff]
theorem take_succ (l : List Int) (i : Nat) (h : i < l.length) : l.take (i + 1) = l.take i ++ [rd l (i : Int)] := by
  rw [rd_get l i h, List.take_append_getElem h]
def st1 (out : List Nat) (x : Nat) : List Nat := if x ∈ out then out else out ++ [x]
def bfs (p q : List Nat) : Nat → Nat → List Nat → List Nat
  | 0, _, out => out
  | f + 1, a, out => if a < out.length then bfs p q f (a + 1) (st1 (st1 out (g p (g out a))) (g q (g out a))) else out
def reach (p q : List Nat) (s : Nat) : List Nat := bfs p q (p.length + 1) 0 [s]
structure RInv (n : Nat) (out : List Nat) : Prop where
  nd : out.Nodup
  lt : ∀ x ∈ out, x < n
theorem RInv.le {n : Nat} {out : List Nat} (h : RInv n out) : out.length ≤ n := nodup_le n out h.nd h.lt
theorem RInv.st {n : Nat} {out : List Nat} {x : Nat} (h : RInv n out) (hx : x < n) : RInv n (st1 out x) := by
  unfold st1
  split
  · exact h
  · rename_i hn
    refine ⟨List.nodup_append.mpr ⟨h.nd, by simp, fun a ha b hb e => ?_⟩, fun y hy => ?_⟩
    · have : b = x := by simpa using hb
      subst this
      exact hn (e ▸ ha)
    · rcases List.mem_append.mp hy with hy | hy
      · exact h.lt y hy
      · have : y = x := by simpa using hy
        omega
theorem st1_len (out : List Nat) (x : Nat) : out.length ≤ (st1 out x).length := by
  unfold st1
  split <;> simp
theorem RInv.g {n : Nat} {out : List Nat} {a : Nat} (h : RInv n out) (ha : a < out.length) : M.g out a < n := h.lt _ (g_mem ha)
structure Sf (r u : List Nat) : Prop where
  pr : IsP r
  pu : IsP u
  le : r.length ≤ 24
  eq : u.length = r.length
  pos : 0 < r.length
  all : (reach r u 0).length = r.length
def surfB (r u : List Int) : Bool := permB r && permB u && decide (r.length = u.length) && decide (0 < r.length) && ((reach (N r) (N u) 0).length == r.length)
theorem surf_nat {r u : List Int} (h : surfB r u = true) : ∃ r' u', r = I r' ∧ u = I u' ∧ Sf r' u' := by
  unfold surfB at h
  simp only [Bool.and_eq_true, decide_eq_true_eq, beq_iff_eq] at h
  obtain ⟨⟨⟨⟨h1, h2⟩, h3⟩, h4⟩, h5⟩ := h
  obtain ⟨r', rfl, a1, a2⟩ := PI_nat (of_decide_eq_true h1)
  obtain ⟨u', rfl, b1, b2⟩ := PI_nat (of_decide_eq_true h2)
  rw [N_I, N_I, I_len] at h5
  rw [I_len, I_len] at h3
  rw [I_len] at h4
  exact ⟨r', u', rfl, rfl, a1, b1, a2, h3.symm, h4, h5⟩
theorem surfB_I {r u : List Nat} : surfB (I r) (I u) = true ↔ Sf r u := by
  constructor
  · intro h
    obtain ⟨r', u', e1, e2, hs⟩ := surf_nat h
    have := I_inj e1
    have := I_inj e2
    subst_vars
    exact hs
  · intro h
    unfold surfB
    simp only [Bool.and_eq_true, decide_eq_true_eq, beq_iff_eq]
    rw [N_I, N_I, I_len, I_len]
    exact ⟨⟨⟨⟨permB_I.mpr ⟨h.pr, h.le⟩, permB_I.mpr ⟨h.pu, by have := h.le; have := h.eq; omega⟩⟩, h.eq.symm⟩, h.pos⟩, h.all⟩
end Go.Proofs.Ytoijcallajegfaa.M
end
section
/- Plain mathematics: going round a permutation. No conditions. -/
namespace Go.Proofs.Ytoijcallajegfaa.M
set_option linter.unusedVariables false
set_option linter.unusedSimpArgs false
def itr (p : List Nat) : Nat → Nat → Nat
  | 0, s => s
  | m + 1, s => g p (itr p m s)
theorem itr_lt {p : List Nat} (hp : IsP p) (m : Nat) {s : Nat} (hs : s < p.length) : itr p m s < p.length := by
  induction m with
  | zero => exact hs
  | succ m ih => exact g_lt hp ih
theorem itr_add (p : List Nat) (a b s : Nat) : itr p (a + b) s = itr p a (itr p b s) := by
  induction a with
  | zero => simp [itr]
  | succ a ih =>
    have e : a + 1 + b = (a + b) + 1 := by omega
    rw [e, itr, itr, ih]
theorem itr_back {p : List Nat} (hp : IsP p) {s : Nat} (hs : s < p.length) (i d : Nat) (h : itr p (i + d) s = itr p i s) : itr p d s = s := by
  induction i with
  | zero =>
    have e : 0 + d = d := by omega
    rw [e] at h
    exact h
  | succ i ih =>
    have e : i + 1 + d = (i + d) + 1 := by omega
    rw [e] at h
    exact ih (g_inj hp (itr_lt hp _ hs) (itr_lt hp _ hs) h)
theorem period {p : List Nat} (hp : IsP p) {s : Nat} (hs : s < p.length) : ∃ m, 1 ≤ m ∧ m ≤ p.length ∧ itr p m s = s := by
  apply Classical.byContradiction
  intro hn
  have hd : ((List.range (p.length + 1)).map (fun m => itr p m s)).Nodup := by
    refine List.pairwise_map.mpr ?_
    refine List.pairwise_iff_getElem.mpr ?_
    intro i j hi hj hij
    rw [List.length_range] at hi hj
    rw [List.getElem_range, List.getElem_range]
    intro e
    have : itr p (j - i) s = s := itr_back hp hs i (j - i) (by
      have e2 : i + (j - i) = j := by omega
      rw [e2]
      exact e.symm)
    exact hn ⟨j - i, by omega, by omega, this⟩
  have := nodup_le p.length _ hd (fun x hx => by
    obtain ⟨m, _, rfl⟩ := List.mem_map.mp hx
    exact itr_lt hp m hs)
  simp at this
  omega
end Go.Proofs.Ytoijcallajegfaa.M
end
section
/- Plain mathematics: surfaces, and what the four letters make of them. No conditions. -/
namespace Go.Proofs.Ytoijcallajegfaa.M
set_option linter.unusedVariables false
set_option linter.unusedSimpArgs false
theorem st1_mem {out : List Nat} {x y : Nat} : y ∈ st1 out x ↔ y ∈ out ∨ y = x := by
  unfold st1
  split
  · rename_i h
    constructor
    · exact Or.inl
    · rintro (h' | rfl)
      · exact h'
      · exact h
  · simp
theorem st1_g {out : List Nat} {x i : Nat} (h : i < out.length) : g (st1 out x) i = g out i := by
  unfold st1
  split
  · rfl
  · unfold g
    rw [List.getD_eq_getElem?_getD, List.getD_eq_getElem?_getD, List.getElem?_append_left h]
theorem st1_le (out : List Nat) (x : Nat) : out.length ≤ (st1 out x).length := by
  unfold st1
  split
  · exact Nat.le_refl _
  · simp
theorem bfs_ind {r u : List Nat} {n : Nat} (S : Nat → Prop) (h1 : ∀ x, x < n → S x → S (g r x) ∧ g r x < n) (h2 : ∀ x, x < n → S x → S (g u x) ∧ g u x < n) : ∀ (F a : Nat) (out : List Nat), (∀ x ∈ out, S x ∧ x < n) → ∀ x ∈ bfs r u F a out, S x ∧ x < n := by
  intro F
  induction F with
  | zero => intro a out h; exact h
  | succ F ih =>
    intro a out h
    unfold bfs
    split
    · rename_i ha
      obtain ⟨s, l⟩ := h _ (g_mem ha)
      refine ih _ _ (fun x hx => ?_)
      rcases st1_mem.mp hx with hx | rfl
      · rcases st1_mem.mp hx with hx | rfl
        · exact h x hx
        · exact h1 _ l s
      · exact h2 _ l s
    · exact h
theorem bfs_sub {r u : List Nat} : ∀ (F a : Nat) (out : List Nat), ∀ x ∈ out, x ∈ bfs r u F a out := by
  intro F
  induction F with
  | zero => intro a out x h; exact h
  | succ F ih =>
    intro a out x h
    unfold bfs
    split
    · exact ih _ _ x (st1_mem.mpr (.inl (st1_mem.mpr (.inl h))))
    · exact h
theorem bfs_rinv {r u : List Nat} {n : Nat} (h1 : ∀ x, x < n → g r x < n) (h2 : ∀ x, x < n → g u x < n) : ∀ (F a : Nat) (out : List Nat), RInv n out → RInv n (bfs r u F a out) := by
  intro F
  induction F with
  | zero => intro a out h; exact h
  | succ F ih =>
    intro a out h
    unfold bfs
    split
    · rename_i ha
      have hx := h.g ha
      exact ih _ _ ((h.st (h1 _ hx)).st (h2 _ hx))
    · exact h
theorem bfs_shut {r u : List Nat} {n : Nat} (h1 : ∀ x, x < n → g r x < n) (h2 : ∀ x, x < n → g u x < n) : ∀ (F a : Nat) (out : List Nat), RInv n out → a ≤ out.length → n < F + a → (∀ i, i < a → g r (g out i) ∈ out ∧ g u (g out i) ∈ out) → ∀ x ∈ bfs r u F a out, g r x ∈ bfs r u F a out ∧ g u x ∈ bfs r u F a out := by
  intro F
  induction F with
  | zero =>
    intro a out h ha hF
    have := h.le
    omega
  | succ F ih =>
    intro a out h ha hF hc
    unfold bfs
    split
    · rename_i ha'
      have hx := h.g ha'
      have r1 := h.st (h1 _ hx)
      have l1 := st1_le out (g r (g out a))
      have l2 := st1_le (st1 out (g r (g out a))) (g u (g out a))
      refine ih _ _ (r1.st (h2 _ hx)) (by omega) (by omega) (fun i hi => ?_)
      have e : g (st1 (st1 out (g r (g out a))) (g u (g out a))) i = g out i := by
        rw [st1_g (by omega), st1_g (by omega)]
      rw [e]
      by_cases hia : i < a
      · exact ⟨st1_mem.mpr (.inl (st1_mem.mpr (.inl (hc i hia).1))), st1_mem.mpr (.inl (st1_mem.mpr (.inl (hc i hia).2)))⟩
      · obtain rfl : i = a := by omega
        exact ⟨st1_mem.mpr (.inl (st1_mem.mpr (.inr rfl))), st1_mem.mpr (.inr rfl)⟩
    · intro x hx
      obtain ⟨i, hi, rfl⟩ := mem_g hx
      exact hc i (by omega)
theorem nodup_sub_len5 : ∀ (a b : List Nat), a.Nodup → (∀ x ∈ a, x ∈ b) → a.length ≤ b.length := by
  intro a
  induction a with
  | nil => intro b _ _; simp
  | cons x a ih =>
    intro b hn h
    obtain ⟨h1, h2⟩ := List.nodup_cons.mp hn
    have hx : x ∈ b := h x (by simp)
    have := ih (b.erase x) h2 (fun y hy => (List.mem_erase_of_ne (fun e => h1 (by rw [← e]; exact hy))).mpr (h y (by simp [hy])))
    rw [List.length_erase_of_mem hx] at this
    have hp := List.length_pos_of_mem hx
    simp
    omega
def Tr (r u : List Nat) : Prop := ∀ S : Nat → Prop, S 0 → (∀ x, x < r.length → S x → S (g r x)) → (∀ x, x < r.length → S x → S (g u x)) → ∀ x, x < r.length → S x
theorem sf_of_tr {r u : List Nat} (pr : IsP r) (pu : IsP u) (le : r.length ≤ 24) (eq : u.length = r.length) (pos : 0 < r.length) (h : Tr r u) : Sf r u := by
  have b1 : ∀ x, x < r.length → g r x < r.length := fun x hx => g_lt pr hx
  have b2 : ∀ x, x < r.length → g u x < r.length := fun x hx => by have := g_lt pu (i := x) (by omega); omega
  have hri : RInv r.length (reach r u 0) := bfs_rinv b1 b2 _ _ _ ⟨by simp, by simpa using pos⟩
  have hsh := bfs_shut b1 b2 (r.length + 1) 0 [0] ⟨by simp, by simpa using pos⟩ (by simp) (by omega) (fun i hi => by omega)
  have hall : ∀ x, x < r.length → x ∈ reach r u 0 := h (fun x => x ∈ reach r u 0) (bfs_sub _ _ _ 0 (by simp)) (fun x _ hx => (hsh x hx).1) (fun x _ hx => (hsh x hx).2)
  refine ⟨pr, pu, le, eq, pos, ?_⟩
  have l1 := hri.le
  have l2 := nodup_sub_len5 (List.range r.length) (reach r u 0) List.nodup_range (fun x hx => hall x (List.mem_range.mp hx))
  rw [List.length_range] at l2
  omega
theorem Sf.tr {r u : List Nat} (hs : Sf r u) : Tr r u := by
  intro S s0 h1 h2 x hx
  have b1 : ∀ x, x < r.length → g r x < r.length := fun x hx => g_lt hs.pr hx
  have b2 : ∀ x, x < r.length → g u x < r.length := fun x hx => by have := g_lt hs.pu (i := x) (by rw [hs.eq]; exact hx); rw [hs.eq] at this; exact this
  have hri : RInv r.length (reach r u 0) := bfs_rinv b1 b2 _ _ _ ⟨by simp, by simpa using hs.pos⟩
  have hp : IsP (reach r u 0) := ⟨fun x hx => by rw [hs.all]; exact hri.lt x hx, hri.nd⟩
  have hm := mem_all hp (x := x) (by rw [hs.all]; exact hx)
  have h0 : ∀ y ∈ [0], S y ∧ y < r.length := by
    intro y hy
    obtain rfl : y = 0 := by simpa using hy
    exact ⟨s0, hs.pos⟩
  exact (bfs_ind S (fun x hx h => ⟨h1 x hx h, b1 x hx⟩) (fun x hx h => ⟨h2 x hx h, b2 x hx⟩) _ _ [0] h0 x hm).1
theorem closed_back {p : List Nat} (hp : IsP p) {S : Nat → Prop} (hS : ∀ x, x < p.length → S x → S (g p x)) {x : Nat} (hx : x < p.length) (h : S (g p x)) : S x := by
  obtain ⟨m, h1, _, h3⟩ := period hp hx
  have H : ∀ k, S (itr p k (g p x)) := by
    intro k
    induction k with
    | zero => exact h
    | succ k ih => exact hS _ (itr_lt hp k (g_lt hp hx)) ih
  have e : itr p (m - 1) (g p x) = itr p m x := by
    have := itr_add p (m - 1) 1 x
    rw [show m - 1 + 1 = m by omega] at this
    exact this.symm
  have := H (m - 1)
  rw [e, h3] at this
  exact this
theorem reach_full {r u : List Nat} (hs : Sf r u) {s : Nat} (hb : s < r.length) : RInv r.length (reach r u s) ∧ ∀ x, x < r.length → x ∈ reach r u s := by
  have b1 : ∀ x, x < r.length → g r x < r.length := fun x hx => g_lt hs.pr hx
  have b2 : ∀ x, x < r.length → g u x < r.length := fun x hx => by have := g_lt hs.pu (i := x) (by rw [hs.eq]; exact hx); rw [hs.eq] at this; exact this
  have h0 : RInv r.length [s] := ⟨by simp, by simpa using hb⟩
  have hsh := bfs_shut b1 b2 (r.length + 1) 0 [s] h0 (by simp) (by omega) (fun i hi => by omega)
  have hmem : s ∈ reach r u s := bfs_sub _ _ _ s (by simp)
  refine ⟨bfs_rinv b1 b2 _ _ _ h0, ?_⟩
  have z : (0 : Nat) ∈ reach r u s := by
    apply Classical.byContradiction
    intro hz
    refine hs.tr (fun x => x ∉ reach r u s) hz (fun x hx hn hm => ?_) (fun x hx hn hm => ?_) s hb hmem
    · exact hn (closed_back hs.pr (S := fun x => x ∈ reach r u s) (fun y _ hy => (hsh y hy).1) hx hm)
    · exact hn (closed_back hs.pu (S := fun x => x ∈ reach r u s) (fun y _ hy => (hsh y hy).2) (by rw [hs.eq]; exact hx) hm)
  exact hs.tr (fun x => x ∈ reach r u s) z (fun x _ hx => (hsh x hx).1) (fun x _ hx => (hsh x hx).2)
theorem sf_T {r u : List Nat} (hs : Sf r u) : Sf r (thn (inv r) u) := by
  have h1 : (inv r).length = u.length := by rw [inv_len, hs.eq]
  refine sf_of_tr hs.pr (isP_thn (isP_inv hs.pr) hs.pu h1) hs.le (by rw [thn_len, inv_len]) hs.pos (fun S s0 k1 k2 => hs.tr S s0 k1 (fun x hx hsx => ?_))
  have := k2 (g r x) (g_lt hs.pr hx) (k1 x hx hsx)
  rw [g_thn (by rw [inv_len]; exact g_lt hs.pr hx), g_inv (g_lt hs.pr hx), ix_g hs.pr hx] at this
  exact this
theorem sf_t {r u : List Nat} (hs : Sf r u) : Sf r (thn r u) := by
  have h1 : r.length = u.length := hs.eq.symm
  refine sf_of_tr hs.pr (isP_thn hs.pr hs.pu h1) hs.le (by rw [thn_len]) hs.pos (fun S s0 k1 k2 => hs.tr S s0 k1 (fun y hy hsy => ?_))
  have hx : ix r y < r.length := ix_lt hs.pr hy
  have e : g r (ix r y) = y := g_ix hs.pr hy
  have hsx : S (ix r y) := closed_back hs.pr (S := S) k1 hx (by rw [e]; exact hsy)
  have := k2 _ hx hsx
  rw [g_thn hx, e] at this
  exact this
theorem sf_S {r u : List Nat} (hs : Sf r u) : Sf (inv u) r := by
  have hl : (inv u).length = r.length := by rw [inv_len, hs.eq]
  refine sf_of_tr (isP_inv hs.pu) hs.pr (by rw [hl]; exact hs.le) hl.symm (by rw [hl]; exact hs.pos) (fun S s0 k1 k2 => ?_)
  rw [hl] at k1 k2 ⊢
  refine hs.tr S s0 k2 (fun x hx hsx => ?_)
  have hx' : g u x < u.length := g_lt hs.pu (by rw [hs.eq]; exact hx)
  refine closed_back (isP_inv hs.pu) (S := S) (fun y hy => k1 y (by rw [← hl]; exact hy)) (x := g u x) (by rw [inv_len]; exact hx') ?_
  rw [g_inv hx', ix_g hs.pu (by rw [hs.eq]; exact hx)]
  exact hsx
theorem sf_s {r u : List Nat} (hs : Sf r u) : Sf u (inv r) := by
  refine sf_of_tr hs.pu (isP_inv hs.pr) (by rw [hs.eq]; exact hs.le) (by rw [inv_len, hs.eq]) (by rw [hs.eq]; exact hs.pos) (fun S s0 k1 k2 => ?_)
  rw [hs.eq] at k1 k2 ⊢
  refine hs.tr S s0 (fun x hx hsx => ?_) k1
  have hx' : g r x < r.length := g_lt hs.pr hx
  refine closed_back (isP_inv hs.pr) (S := S) (fun y hy => k2 y (by rw [inv_len] at hy; exact hy)) (x := g r x) (by rw [inv_len]; exact hx') ?_
  rw [g_inv hx', ix_g hs.pr hx]
  exact hsx
end Go.Proofs.Ytoijcallajegfaa.M
end
section
/- The tests of permutations, program and reference, come to one plain test. No conditions. -/
namespace Go.Proofs.Ytoijcallajegfaa.M
set_option linter.unusedVariables false
set_option linter.unusedSimpArgs false
open Go.RowKit Go.Proofs.YtoijcallajegfaaW.PrintWords Go.Proofs.YtoijcallajegfaaW.PrintLast Go.Proofs.YtoijcallajegfaaW.PrintMore Go.Proofs.Ytoijcallajegfaa.A
theorem has_ev (l : List Int) (a : Int) (hl : l.length ≤ 1000000000) : Ev (fun k => spec_l02Has.f k l a) (decide (a ∈ l)) := by
  have H : ∀ d i : Nat, i + d = l.length → Ev (fun k => spec_l02Has.l0 k a l (l.length : Int) (i : Int)) (decide (a ∈ l.drop i)) := by
    intro d
    induction d with
    | zero =>
      intro i h
      refine ev_succ ?_
      have h1 : ¬ ((i : Int) < (l.length : Int)) := by omega
      have e : decide (a ∈ l.drop i) = false := by
        rw [List.drop_of_length_le (by omega)]
        simp
      simp only [spec_l02Has.l0, h1, if_false]
      rw [e]
      exact Ev.now _
    | succ d ih =>
      intro i h
      refine ev_succ ?_
      have hi : i < l.length := by omega
      have h1 : (i : Int) < (l.length : Int) := by omega
      have h2 : (0 : Int) ≤ (i : Int) := by omega
      have h3 := w64s i (by omega)
      have e := List.drop_eq_getElem_cons hi
      rw [← rd_get l i hi] at e
      by_cases hr : rd l (i : Int) = a
      · have e2 : decide (a ∈ l.drop i) = true := by rw [e, hr]; simp
        simp only [spec_l02Has.l0, h1, h2, hr, if_true]
        rw [e2]
        exact Ev.now _
      · have e2 : decide (a ∈ l.drop i) = decide (a ∈ l.drop (i + 1)) := by
          rw [e]
          have : ¬ a = rd l (i : Int) := fun h => hr h.symm
          simp [this]
        simp only [spec_l02Has.l0, h1, h2, h3, hr, if_true, if_false]
        rw [e2]
        exact ih (i + 1) (by omega)
  have := H l.length 0 (by omega)
  simpa [spec_l02Has.f] using this
theorem in_f (x : Int) (n : Nat) (hn : n ≤ 24) : spec_l01In.f x 0 (wrap64 ((n : Int) - 1)) = some (decide (0 ≤ x ∧ x < (n : Int))) := by
  unfold spec_l01In.f
  rw [w64 (by omega) (by omega)]
  by_cases h : x ≥ 0
  · rw [if_pos h]
    congr 1
    rw [Bool.eq_iff_iff, decide_eq_true_iff, decide_eq_true_iff]
    omega
  · rw [if_neg h]
    congr 1
    symm
    rw [decide_eq_false_iff_not]
    omega
theorem spec_permOk (l : List Int) : Ev (fun k => spec_PermOk.f k l) (permB l) := by
  unfold spec_PermOk.f
  by_cases h24 : (l.length : Int) > 24
  · simp only [h24, if_true]
    have : permB l = false := by
      unfold permB
      rw [decide_eq_false_iff_not]
      intro h
      have := h.1
      omega
    rw [this]
    exact Ev.now _
  · simp only [h24, if_false]
    have H : ∀ d i : Nat, i + d = l.length → ∃ b, Ev (fun k => spec_PermOk.l0 k l l (l.length : Int) (i : Int)) b ∧ (b = true ↔ okFrom l i) := by
      intro d
      induction d with
      | zero =>
        intro i h
        refine ⟨true, ev_succ ?_, by simp [okFrom_end l i (by omega)]⟩
        have h1 : ¬ ((i : Int) < (l.length : Int)) := by omega
        simp only [spec_PermOk.l0, h1, if_false]
        exact Ev.now _
      | succ d ih =>
        intro i h
        have hi : i < l.length := by omega
        have h1 : (i : Int) < (l.length : Int) := by omega
        have h1' : (i : Int) ≤ (l.length : Int) := by omega
        have h2 : (0 : Int) ≤ (i : Int) := by omega
        have h3 := w64s i (by omega)
        have hin := in_f (rd l (i : Int)) l.length (by omega)
        by_cases c1 : 0 ≤ rd l (i : Int) ∧ rd l (i : Int) < (l.length : Int)
        · have hh := has_ev (l.take i) (rd l (i : Int)) (by rw [List.length_take]; omega)
          by_cases c2 : rd l (i : Int) ∈ l.take i
          · refine ⟨false, ev_succ ?_, by simpa using okFrom_not hi (fun h => h.2.2 c2)⟩
            simp only [spec_PermOk.l0, h1, h1', h2, hin, c1, if_true, Option.bind_some, decide_true, Int.toNat_natCast, and_self]
            refine Ev.bind hh ?_
            simp only [c2, decide_true, if_true]
            exact Ev.now _
          · obtain ⟨b, i1, i2⟩ := ih (i + 1) (by omega)
            refine ⟨b, ev_succ ?_, by rw [i2]; exact (okFrom_step ⟨c1.1, c1.2, c2⟩).symm⟩
            simp only [spec_PermOk.l0, h1, h1', h2, h3, hin, c1, if_true, Option.bind_some, decide_true, Int.toNat_natCast, and_self]
            refine Ev.bind hh ?_
            simp only [c2, decide_false, Bool.false_eq_true, if_false]
            exact i1
        · refine ⟨false, ev_succ ?_, by simpa using okFrom_not hi (fun h => c1 ⟨h.1, h.2.1⟩)⟩
          simp only [spec_PermOk.l0, h1, h2, hin, c1, if_true, if_false, Option.bind_some, decide_false, Bool.false_eq_true]
          exact Ev.now _
    obtain ⟨b, i1, i2⟩ := H l.length 0 (by omega)
    rw [← permB_of (by omega) i2]
    exact i1
theorem rdOf_nat (s : List Bool) (x : Nat) : rdOf false s (x : Int) = s.getD x false := rfl
theorem getD_set (s : List Bool) (x y : Nat) (h : x < s.length) : (s.set x true).getD y false = if x = y then true else s.getD y false := by
  rw [List.getD_eq_getElem?_getD, List.getD_eq_getElem?_getD, List.getElem?_set]
  by_cases e : x = y
  · subst e
    simp [h]
  · simp [e]
theorem impl_permOk (l : List Int) : Ev (fun k => impl_PermOk.f k l) (permB l) := by
  unfold impl_PermOk.f
  by_cases h24 : (l.length : Int) > 24
  · simp only [h24, if_true]
    have : permB l = false := by
      unfold permB
      rw [decide_eq_false_iff_not]
      intro h
      have := h.1
      omega
    rw [this]
    exact Ev.now _
  · simp only [h24, if_false]
    have H : ∀ (d i : Nat) (s : List Bool), i + d = l.length → s.length = 24 → (∀ x : Nat, x < 24 → (s.getD x false = true ↔ (x : Int) ∈ l.take i)) → ∃ b, Ev (fun k => impl_PermOk.l0 k l s (i : Int)) b ∧ (b = true ↔ okFrom l i) := by
      intro d
      induction d with
      | zero =>
        intro i s h hs hx
        refine ⟨true, ev_succ ?_, by simp [okFrom_end l i (by omega)]⟩
        have h1 : ¬ ((i : Int) < (l.length : Int)) := by omega
        simp only [impl_PermOk.l0, h1, if_false]
        exact Ev.now _
      | succ d ih =>
        intro i s h hs hx
        have hi : i < l.length := by omega
        have h1 : (i : Int) < (l.length : Int) := by omega
        have h2 : (0 : Int) ≤ (i : Int) := by omega
        have h3 := w64s i (by omega)
        by_cases c1 : rd l (i : Int) < 0
        · refine ⟨false, ev_succ ?_, by simpa using okFrom_not hi (fun h => by omega)⟩
          simp only [impl_PermOk.l0, h1, h2, c1, if_true]
          exact Ev.now _
        · by_cases c2 : rd l (i : Int) ≥ (l.length : Int)
          · refine ⟨false, ev_succ ?_, by simpa using okFrom_not hi (fun h => by omega)⟩
            simp only [impl_PermOk.l0, h1, h2, c1, c2, if_true, if_false]
            exact Ev.now _
          · obtain ⟨x, ex⟩ : ∃ x : Nat, rd l (i : Int) = (x : Int) := ⟨(rd l (i : Int)).toNat, by omega⟩
            have hx24 : x < 24 := by omega
            by_cases c3 : s.getD x false = true
            · have hm := (hx x hx24).mp c3
              refine ⟨false, ev_succ ?_, by simpa using okFrom_not hi (fun h => h.2.2 (by rw [ex]; exact hm))⟩
              rw [ex] at c1 c2
              simp only [impl_PermOk.l0, h1, h2, ex, c1, c2, rdOf_nat, c3, if_true, if_false]
              exact Ev.now _
            · have hm : (x : Int) ∉ l.take i := fun h => c3 ((hx x hx24).mpr h)
              obtain ⟨b, i1, i2⟩ := ih (i + 1) (s.set x true) (by omega) (by rw [List.length_set]; exact hs) (fun y hy => by
                rw [getD_set s x y (by omega), take_succ l i hi, ex]
                by_cases e : x = y
                · subst e
                  simp
                · rw [if_neg e, hx y hy]
                  have : ¬ (y : Int) = (x : Int) := by omega
                  simp [this])
              refine ⟨b, ev_succ ?_, by rw [i2]; exact (okFrom_step ⟨by omega, by omega, by rw [ex]; exact hm⟩).symm⟩
              rw [ex] at c1 c2
              simp only [impl_PermOk.l0, h1, h2, h3, ex, c1, c2, rdOf_nat, c3, if_true, if_false, Int.toNat_natCast]
              exact i1
    obtain ⟨b, i1, i2⟩ := H l.length 0 (List.replicate 24 false) (by omega) rfl (fun x hx => by
      have : (List.replicate 24 false).getD x false = false := by
        rw [List.getD_eq_getElem?_getD, List.getElem?_replicate]
        simp [hx]
      rw [this]
      simp)
    rw [← permB_of (by omega) i2]
    exact i1
end Go.Proofs.Ytoijcallajegfaa.M
end
section
/- The tests of surfaces, program and reference, come to one plain test. No conditions. -/
namespace Go.Proofs.Ytoijcallajegfaa.M
set_option linter.unusedVariables false
set_option linter.unusedSimpArgs false
open Go.RowKit Go.Proofs.YtoijcallajegfaaW.PrintWords Go.Proofs.YtoijcallajegfaaW.PrintLast Go.Proofs.YtoijcallajegfaaW.PrintMore Go.Proofs.Ytoijcallajegfaa.A
theorem I_pair (a b : Nat) : ([(a : Int), (b : Int)] : List Int) = I [a, b] := rfl
theorem I_len' (l : List Nat) : ((I l).length : Int) = (l.length : Int) := by rw [I_len]
theorem st1_I (out : List Nat) (x : Nat) : I (st1 out x) = if (x : Int) ∈ I out then I out else I out ++ [(x : Int)] := by
  unfold st1
  by_cases h : x ∈ out
  · rw [if_pos h, if_pos (mem_I.mpr h)]
  · rw [if_neg h, if_neg (fun k => h (mem_I.mp k)), I_snoc]
theorem reach_one (p q out pr : List Nat) (a : Nat) (j : Nat) (hj : j < pr.length) (hp : pr.length ≤ 2) (hl : out.length ≤ 1000) (r : List Int)
    (H : Ev (fun k => spec_l02Reach.l1 k (I p) (I q) (I (st1 out (g pr j))) (a : Int) (I pr) (pr.length : Int) ((j + 1 : Nat) : Int)) r) :
    Ev (fun k => spec_l02Reach.l1 k (I p) (I q) (I out) (a : Int) (I pr) (pr.length : Int) (j : Int)) r := by
  refine ev_succ ?_
  have h1 : (j : Int) < (pr.length : Int) := by omega
  have h2 : (0 : Int) ≤ (j : Int) := by omega
  have h3 := w64s j (by omega)
  have h4 : (I out).length < 17592186044416 := by rw [I_len]; omega
  have hh := has_ev (I out) ((g pr j : Nat) : Int) (by rw [I_len]; omega)
  simp only [spec_l02Reach.l1, h1, h2, h3, h4, rdI, I_len', if_true]
  refine Ev.bind hh ?_
  rw [st1_I] at H
  by_cases hm : ((g pr j : Nat) : Int) ∈ I out
  · rw [if_pos hm] at H
    simp only [hm, decide_true, if_true]
    exact H
  · rw [if_neg hm] at H
    simp only [hm, decide_false, Bool.false_eq_true, if_false]
    exact H
theorem reach_loop {p q : List Nat} (hp : IsP p) (hq : IsP q) (hl : q.length = p.length) (h24 : p.length ≤ 24) (f : Nat) : ∀ (a : Nat) (out : List Nat), RInv p.length out → a ≤ out.length → p.length < f + a →
    Ev (fun k => spec_l02Reach.l0 k (I p) (I q) (I out) (a : Int)) (I (bfs p q f a out)) := by
  induction f with
  | zero =>
    intro a out hr ha hf
    have := hr.le
    omega
  | succ f ih =>
    intro a out hr ha hf
    have hle := hr.le
    refine ev_succ ?_
    by_cases h : a < out.length
    · have h1 : (a : Int) < (out.length : Int) := by omega
      have h2 : (0 : Int) ≤ (a : Int) := by omega
      have hx := hr.g h
      have h3 : ((g out a : Nat) : Int) < (p.length : Int) := by omega
      have h4 : (0 : Int) ≤ ((g out a : Nat) : Int) := by omega
      have h5 : ((g out a : Nat) : Int) < (q.length : Int) := by omega
      have h6 := w64s a (by omega)
      simp only [spec_l02Reach.l0, h1, h2, h3, h4, h5, rdI, I_len', if_true, Option.bind_some, I_pair]
      have r1 := hr.st (g_lt hp hx)
      have r2 := r1.st (x := g q (g out a)) (by have := g_lt hq (i := g out a) (by omega); omega)
      have hb : bfs p q (f + 1) a out = bfs p q f (a + 1) (st1 (st1 out (g p (g out a))) (g q (g out a))) := by
        rw [bfs, if_pos h]
      rw [hb]
      have i1 := ih (a + 1) _ r2 (by have := st1_len out (g p (g out a)); have := st1_len (st1 out (g p (g out a))) (g q (g out a)); omega) (by omega)
      refine reach_one p q out [g p (g out a), g q (g out a)] a 0 (by simp) (by simp) (by omega) _ ?_
      refine reach_one p q _ [g p (g out a), g q (g out a)] a 1 (by simp) (by simp) (by have := r1.le; simp only [g, List.getD_cons_zero] at this ⊢; omega) _ ?_
      refine ev_succ ?_
      have h7 : ¬ (((1 + 1 : Nat) : Int) < (([g p (g out a), g q (g out a)] : List Nat).length : Int)) := by simp
      simp only [spec_l02Reach.l1, h7, h6, if_false]
      exact i1
    · have h1 : ¬ ((a : Int) < (out.length : Int)) := by omega
      have hb : bfs p q (f + 1) a out = out := by rw [bfs, if_neg h]
      rw [hb]
      simp only [spec_l02Reach.l0, h1, I_len', if_false]
      exact Ev.now _
theorem reach_ev {p q : List Nat} (hp : IsP p) (hq : IsP q) (hl : q.length = p.length) (h24 : p.length ≤ 24) (s : Nat) (hs : s < p.length) : Ev (fun k => spec_l02Reach.f k (I p) (I q) (s : Int)) (I (reach p q s)) := by
  unfold spec_l02Reach.f reach
  exact reach_loop hp hq hl h24 (p.length + 1) 0 [s] ⟨by simp, by simpa using hs⟩ (by simp) (by omega)
theorem len_ne_false {r u : List Int} (h : r.length ≠ u.length) : surfB r u = false := by
  unfold surfB
  simp [h]
theorem surfB_mk {r u : List Int} (h1 : permB r = true) (h2 : permB u = true) (h3 : r.length = u.length) (h4 : 0 < r.length) : surfB r u = ((reach (N r) (N u) 0).length == r.length) := by
  unfold surfB
  simp [h1, h2, h3, h4]
  intro _
  omega
theorem spec_trans (r u : List Int) : Ev (fun k => spec_IsTransitive.f k r u) (surfB r u) := by
  unfold spec_IsTransitive.f
  refine Ev.bind (spec_permOk r) ?_
  by_cases h1 : permB r = true
  · simp only [h1, if_true]
    refine Ev.bind (spec_permOk u) ?_
    by_cases h2 : permB u = true
    · simp only [h2, if_true]
      by_cases h3 : (r.length : Int) = (u.length : Int)
      · have h3' : r.length = u.length := by omega
        by_cases h4 : (r.length : Int) > 0
        · have h4' : 0 < r.length := by omega
          rw [surfB_mk h1 h2 h3' h4']
          obtain ⟨p, rfl, a1, a2⟩ := PI_nat (of_decide_eq_true h1)
          obtain ⟨q, rfl, b1, b2⟩ := PI_nat (of_decide_eq_true h2)
          rw [I_len, I_len] at h3'
          rw [I_len] at h4'
          have := reach_ev a1 b1 h3'.symm a2 0 h4'
          simp only [h3, h4, if_true]
          rw [h3] at h4
          simp only [h4, if_true]
          refine Ev.bind this ?_
          rw [N_I, N_I]
          have e : (((I (reach p q 0)).length : Int) == ((I q).length : Int)) = ((reach p q 0).length == (I p).length) := by
            rw [I_len, I_len, I_len, Bool.eq_iff_iff, beq_iff_eq, beq_iff_eq]
            omega
          rw [← h3] at e
          simp only [h3] at e
          rw [← e]
          exact Ev.now _
        · simp only [h3, if_true]
          rw [h3] at h4
          simp only [h4, if_false]
          have : surfB r u = false := by
            unfold surfB
            have : ¬ 0 < r.length := by omega
            simp [this]
          rw [this]
          exact Ev.now _
      · simp only [h3, if_false]
        rw [len_ne_false (by omega)]
        exact Ev.now _
    · have h2' := Bool.eq_false_iff.mpr h2
      simp only [h2', Bool.false_eq_true, if_false]
      have : surfB r u = false := by unfold surfB; simp [h2']
      rw [this]
      exact Ev.now _
  · have h1' := Bool.eq_false_iff.mpr h1
    simp only [h1', Bool.false_eq_true, if_false]
    have : surfB r u = false := by unfold surfB; simp [h1']
    rw [this]
    exact Ev.now _
theorem spec_surf (r u : List Int) : Ev (fun k => spec_SurfaceOk.f k r u) (surfB r u) := by
  unfold spec_SurfaceOk.f
  exact Ev.bind (spec_trans r u) (Ev.now _)
def Marks (n : Nat) (s : List Bool) (out : List Nat) : Prop := s.length = n ∧ ∀ x, x < n → (s.getD x false = true ↔ x ∈ out)
theorem Marks.add {n : Nat} {s : List Bool} {out : List Nat} {x : Nat} (h : Marks n s out) (hx : x < n) : Marks n (s.set x true) (out ++ [x]) := by
  refine ⟨by rw [List.length_set]; exact h.1, fun y hy => ?_⟩
  rw [getD_set s x y (by rw [h.1]; exact hx)]
  by_cases e : x = y
  · subst e
    simp
  · rw [if_neg e, h.2 y hy]
    have : ¬ y = x := fun k => e k.symm
    simp [this]
theorem trans_one (p q out pr : List Nat) (s : List Bool) (a : Nat) (j : Nat) (hj : j < pr.length) (hp : pr.length ≤ 2) (hl : out.length ≤ 1000) (hm : Marks p.length s out) (hx : g pr j < p.length) (r : Bool)
    (H : ∀ s', Marks p.length s' (st1 out (g pr j)) → Ev (fun k => impl_IsTransitive.l1 k (I p) (I q) s' (I (st1 out (g pr j))) (a : Int) (I pr) (pr.length : Int) ((j + 1 : Nat) : Int)) r) :
    Ev (fun k => impl_IsTransitive.l1 k (I p) (I q) s (I out) (a : Int) (I pr) (pr.length : Int) (j : Int)) r := by
  refine ev_succ ?_
  have h1 : (j : Int) < (pr.length : Int) := by omega
  have h2 : (0 : Int) ≤ (j : Int) := by omega
  have h3 := w64s j (by omega)
  have h4 : (I out).length < 17592186044416 := by rw [I_len]; omega
  have h5 : (0 : Int) ≤ ((g pr j : Nat) : Int) := by omega
  have h6 : ((g pr j : Nat) : Int) < (s.length : Int) := by rw [hm.1]; omega
  simp only [impl_IsTransitive.l1, h1, h2, h3, h4, h5, h6, rdI, I_len', rdOf_nat, if_true, Int.toNat_natCast]
  by_cases hin : g pr j ∈ out
  · have hs := (hm.2 _ hx).mpr hin
    have e : st1 out (g pr j) = out := by unfold st1; rw [if_pos hin]
    have := H s (by rw [e]; exact hm)
    rw [e] at this
    simp only [hs, if_true]
    exact this
  · have hs : s.getD (g pr j) false = false := Bool.eq_false_iff.mpr (fun h => hin ((hm.2 _ hx).mp h))
    have e : st1 out (g pr j) = out ++ [g pr j] := by unfold st1; rw [if_neg hin]
    have := H (s.set (g pr j) true) (by rw [e]; exact hm.add hx)
    rw [e, ← I_snoc] at this
    simp only [hs, Bool.false_eq_true, if_false]
    exact this
theorem trans_loop {p q : List Nat} (hp : IsP p) (hq : IsP q) (hl : q.length = p.length) (h24 : p.length ≤ 24) (f : Nat) : ∀ (a : Nat) (out : List Nat) (s : List Bool), RInv p.length out → Marks p.length s out → a ≤ out.length → p.length < f + a →
    Ev (fun k => impl_IsTransitive.l0 k (I p) (I q) s (I out) (a : Int)) ((bfs p q f a out).length == p.length) := by
  induction f with
  | zero =>
    intro a out s hr hm ha hf
    have := hr.le
    omega
  | succ f ih =>
    intro a out s hr hm ha hf
    have hle := hr.le
    refine ev_succ ?_
    by_cases h : a < out.length
    · have h1 : (a : Int) < (out.length : Int) := by omega
      have h2 : (0 : Int) ≤ (a : Int) := by omega
      have hx := hr.g h
      have h3 : ((g out a : Nat) : Int) < (p.length : Int) := by omega
      have h4 : (0 : Int) ≤ ((g out a : Nat) : Int) := by omega
      have h5 : ((g out a : Nat) : Int) < (q.length : Int) := by omega
      have h6 := w64s a (by omega)
      simp only [impl_IsTransitive.l0, h1, h2, h3, h4, h5, rdI, I_len', if_true, Option.bind_some, I_pair]
      have hg1 := g_lt hp hx
      have hg2 : g q (g out a) < p.length := by have := g_lt hq (i := g out a) (by omega); omega
      have r1 := hr.st hg1
      have r2 := r1.st hg2
      have hb : bfs p q (f + 1) a out = bfs p q f (a + 1) (st1 (st1 out (g p (g out a))) (g q (g out a))) := by
        rw [bfs, if_pos h]
      rw [hb]
      refine trans_one p q out [g p (g out a), g q (g out a)] s a 0 (by simp) (by simp) (by omega) hm hg1 _ (fun s1 hm1 => ?_)
      refine trans_one p q _ [g p (g out a), g q (g out a)] s1 a 1 (by simp) (by simp) (by have := r1.le; simp only [g, List.getD_cons_zero] at this ⊢; omega) hm1 hg2 _ (fun s2 hm2 => ?_)
      refine ev_succ ?_
      have h7 : ¬ (((1 + 1 : Nat) : Int) < (([g p (g out a), g q (g out a)] : List Nat).length : Int)) := by simp
      simp only [impl_IsTransitive.l1, h7, h6, if_false]
      exact ih (a + 1) _ s2 r2 hm2 (Nat.le_trans (by omega : a + 1 ≤ out.length) (Nat.le_trans (st1_len _ _) (st1_len _ _))) (by omega)
    · have h1 : ¬ ((a : Int) < (out.length : Int)) := by omega
      have hb : bfs p q (f + 1) a out = out := by rw [bfs, if_neg h]
      rw [hb]
      simp only [impl_IsTransitive.l0, h1, I_len', if_false]
      have e : ((out.length : Int) == (p.length : Int)) = (out.length == p.length) := by
        rw [Bool.eq_iff_iff, beq_iff_eq, beq_iff_eq]
        omega
      rw [e]
      exact Ev.now _
theorem j0_true (r u : List Int) : Ev (fun k => impl_IsTransitive.j0 k r u true) false := by
  refine ev_succ ?_
  simp only [impl_IsTransitive.j0, if_true]
  exact Ev.now _
theorem impl_trans (r u : List Int) : Ev (fun k => impl_IsTransitive.f k r u) (surfB r u) := by
  unfold impl_IsTransitive.f
  refine Ev.bind (impl_permOk r) ?_
  by_cases h1 : permB r = true
  · simp only [h1, if_true]
    refine Ev.bind (impl_permOk u) ?_
    by_cases h2 : permB u = true
    · simp only [h2, if_true]
      by_cases h3 : (r.length : Int) = (u.length : Int)
      · have h3' : r.length = u.length := by omega
        simp only [h3, if_true]
        by_cases h4 : 0 < r.length
        · rw [surfB_mk h1 h2 h3' h4]
          obtain ⟨p, rfl, a1, a2⟩ := PI_nat (of_decide_eq_true h1)
          obtain ⟨q, rfl, b1, b2⟩ := PI_nat (of_decide_eq_true h2)
          rw [I_len, I_len] at h3'
          rw [I_len] at h4
          refine ev_succ ?_
          have e0 : ((q.length : Int) == 0) = false := by rw [beq_eq_false_iff_ne]; omega
          have e1 : (0 : Int) ≤ (p.length : Int) := by omega
          have e2 : ((p.length : Int)).toNat ≤ 281474976710656 := by omega
          have e3 : (0 : Int) < ((List.replicate p.length false).length : Int) := by rw [List.length_replicate]; omega
          simp only [impl_IsTransitive.j0, e0, I_len', e1, e2, Bool.false_eq_true, if_true, if_false, Option.bind_some, Int.toNat_natCast, e3]
          simp only [Int.toNat_natCast] at e2
          simp only [e2, if_true]
          rw [N_I, N_I, I_len]
          refine trans_loop a1 b1 h3'.symm a2 (p.length + 1) 0 [0] _ ⟨by simp, by simpa using h4⟩ ?_ (by simp) (by omega)
          refine ⟨by simp, fun x hx => ?_⟩
          have : (0 : Int).toNat = 0 := rfl
          rw [this, getD_set _ 0 x (by simp; omega)]
          by_cases e : 0 = x
          · subst e
            simp
          · rw [if_neg e]
            have h0 : ¬ x = 0 := fun h => e h.symm
            have : (List.replicate p.length false).getD x false = false := by
              rw [List.getD_eq_getElem?_getD, List.getElem?_replicate]
              simp [hx]
            rw [this]
            simp [h0]
        · have e0 : ((u.length : Int) == 0) = true := by rw [beq_iff_eq]; omega
          have : surfB r u = false := by unfold surfB; simp [h4]
          rw [this]
          simp only [e0]
          exact j0_true r u
      · simp only [h3, if_false]
        rw [len_ne_false (by omega)]
        exact j0_true r u
    · have h2' := Bool.eq_false_iff.mpr h2
      simp only [h2', Bool.false_eq_true, if_false]
      have : surfB r u = false := by unfold surfB; simp [h2']
      rw [this]
      exact j0_true r u
  · have h1' := Bool.eq_false_iff.mpr h1
    simp only [h1', Bool.false_eq_true, if_false]
    have : surfB r u = false := by unfold surfB; simp [h1']
    rw [this]
    exact j0_true r u
theorem impl_surf (r u : List Int) : Ev (fun k => impl_SurfaceOk.f k r u) (surfB r u) := by
  unfold impl_SurfaceOk.f
  exact Ev.bind (impl_trans r u) (Ev.now _)
end Go.Proofs.Ytoijcallajegfaa.M
end
section
/- What every law does with its arguments; inverses. No conditions. -/
namespace Go.Proofs.Ytoijcallajegfaa.M
set_option linter.unusedVariables false
set_option linter.unusedSimpArgs false
open Go.RowKit Go.Proofs.YtoijcallajegfaaW.PrintWords Go.Proofs.YtoijcallajegfaaW.PrintLast Go.Proofs.YtoijcallajegfaaW.PrintMore Go.Proofs.Ytoijcallajegfaa.A
theorem rd_set {l : List Int} {i j : Nat} {x : Int} (h : i < l.length) : rd (l.set i x) (j : Int) = if i = j then x else rd l (j : Int) := by
  unfold rd
  simp only [Int.toNat_natCast]
  rw [List.getD_eq_getElem?_getD, List.getD_eq_getElem?_getD, List.getElem?_set]
  by_cases e : i = j
  · subst e
    simp [h]
  · simp [e]
theorem ext_rd {a b : List Int} (hl : a.length = b.length) (h : ∀ i : Nat, i < a.length → rd a (i : Int) = rd b (i : Int)) : a = b := by
  apply List.ext_getElem hl
  intro i h1 h2
  rw [← rd_get a i h1, ← rd_get b i h2]
  exact h i h1
theorem sz_small {r u : List Int} (h : r.length + u.length ≤ 1048576) : laws_szSurface.f r u 1048576 = some (1048576 - (r.length : Int) - (u.length : Int)) := by
  unfold laws_szSurface.f laws_szIntS.f
  have e1 : wrap64 (1048576 - (r.length : Int)) = 1048576 - (r.length : Int) := w64 (by omega) (by omega)
  have e2 : wrap64 (1048576 - (r.length : Int) - (u.length : Int)) = 1048576 - (r.length : Int) - (u.length : Int) := w64 (by omega) (by omega)
  have c1 : ¬ (1048576 - (r.length : Int) < 0) := by omega
  have c2 : ¬ (1048576 - (r.length : Int) - (u.length : Int) < 0) := by omega
  simp only [e1, c1, if_false, Option.bind_some, e2, c2]
theorem sz_big {r u : List Int} (hr : r.length ≤ 9223372036854775807) (hu : u.length ≤ 9223372036854775807) (h : ¬ r.length + u.length ≤ 1048576) : laws_szSurface.f r u 1048576 = some (-1) := by
  unfold laws_szSurface.f laws_szIntS.f
  have e1 : wrap64 (1048576 - (r.length : Int)) = 1048576 - (r.length : Int) := w64 (by omega) (by omega)
  by_cases c1 : 1048576 - (r.length : Int) < 0
  · have c3 : (-1 : Int) < 0 := by omega
    simp only [e1, c1, if_true, Option.bind_some, c3]
  · have e2 : wrap64 (1048576 - (r.length : Int) - (u.length : Int)) = 1048576 - (r.length : Int) - (u.length : Int) := w64 (by omega) (by omega)
    have c2 : 1048576 - (r.length : Int) - (u.length : Int) < 0 := by omega
    have c3 : (-1 : Int) < 0 := by omega
    simp only [e1, c1, if_false, Option.bind_some, e2, c2, if_true, c3]
theorem toInts_ev (l : List Int) (h : l.length ≤ 1048576) : Ev (fun k => laws_toIntS.f k l) l := by
  unfold laws_toIntS.f
  have h1 : (0 : Int) ≤ (l.length : Int) := by omega
  have h2 : ((l.length : Int)).toNat ≤ 35184372088832 := by omega
  simp only [h1, h2, if_true]
  have H : ∀ (d i : Nat) (c : List Int), i + d = l.length → c.length = l.length → (∀ j : Nat, j < i → rd c (j : Int) = rd l (j : Int)) → Ev (fun k => laws_toIntS.l0 k l c (i : Int)) l := by
    intro d
    induction d with
    | zero =>
      intro i c h hc hx
      refine ev_succ ?_
      have h1 : ¬ ((i : Int) < (l.length : Int)) := by omega
      have e : c = l := ext_rd hc (fun j hj => hx j (by omega))
      simp only [laws_toIntS.l0, h1, if_false]
      rw [e]
      exact Ev.now _
    | succ d ih =>
      intro i c h hc hx
      refine ev_succ ?_
      have h1 : (i : Int) < (l.length : Int) := by omega
      have h2 : (0 : Int) ≤ (i : Int) := by omega
      have h3 : (i : Int) < (c.length : Int) := by omega
      have h4 := w64s i (by omega)
      simp only [laws_toIntS.l0, h1, h2, h3, h4, if_true, Int.toNat_natCast]
      refine ih (i + 1) _ (by omega) (by rw [List.length_set]; exact hc) (fun j hj => ?_)
      rw [rd_set (by omega)]
      by_cases e : i = j
      · subst e
        simp
      · rw [if_neg e]
        exact hx j (by omega)
  exact H l.length 0 _ (by omega) (by rw [List.length_replicate]; omega) (fun j hj => by omega)
theorem toSurf_ev (r u : List Int) (hr : r.length ≤ 1048576) (hu : u.length ≤ 1048576) : Ev (fun k => laws_toSurface.f k r u) (r, u) := by
  unfold laws_toSurface.f
  exact Ev.bind (toInts_ev r hr) (Ev.bind (toInts_ev u hu) (Ev.now _))
theorem eqInts_ev (a b : List Int) (ha : a.length ≤ 9000000000000000000) : Ev (fun k => laws_eqIntS.f k a b) (decide (a = b)) := by
  unfold laws_eqIntS.f
  by_cases hl : (a.length : Int) = (b.length : Int)
  · simp only [hl, if_true]
    have hl' : a.length = b.length := by omega
    have H : ∀ d i : Nat, i + d = a.length → ∃ c, Ev (fun k => laws_eqIntS.l0 k a b (i : Int)) c ∧ (c = true ↔ ∀ j : Nat, i ≤ j → j < a.length → rd a (j : Int) = rd b (j : Int)) := by
      intro d
      induction d with
      | zero =>
        intro i h
        refine ⟨true, ev_succ ?_, by simp; intro j h1 h2; omega⟩
        have h1 : ¬ ((i : Int) < (a.length : Int)) := by omega
        simp only [laws_eqIntS.l0, h1, if_false]
        exact Ev.now _
      | succ d ih =>
        intro i h
        have h1 : (i : Int) < (a.length : Int) := by omega
        have h2 : (0 : Int) ≤ (i : Int) := by omega
        have h3 : (i : Int) < (b.length : Int) := by omega
        have h4 := w64s i (by omega)
        by_cases c : rd a (i : Int) = rd b (i : Int)
        · obtain ⟨c', i1, i2⟩ := ih (i + 1) (by omega)
          refine ⟨c', ev_succ ?_, by
            rw [i2]
            constructor
            · intro k j j1 j2
              by_cases e : j = i
              · subst e; exact c
              · exact k j (by omega) j2
            · intro k j j1 j2
              exact k j (by omega) j2⟩
          simp only [laws_eqIntS.l0, h1, h2, h3, h4, c, if_true]
          exact i1
        · refine ⟨false, ev_succ ?_, by
            simp only [Bool.false_eq_true, false_iff]
            intro k
            exact c (k i (Nat.le_refl _) (by omega))⟩
          simp only [laws_eqIntS.l0, h1, h2, h3, c, if_true, if_false]
          exact Ev.now _
    obtain ⟨c, i1, i2⟩ := H a.length 0 (by omega)
    have : decide (a = b) = c := by
      rw [Bool.eq_iff_iff, i2, decide_eq_true_iff]
      constructor
      · intro e j _ _
        rw [e]
      · intro k
        exact ext_rd hl' (fun j hj => k j (Nat.zero_le _) hj)
    rw [this]
    exact i1
  · simp only [hl, if_false]
    have : decide (a = b) = false := by
      rw [decide_eq_false_iff_not]
      intro e
      exact hl (by rw [e])
    rw [this]
    exact Ev.now _
theorem eqInts_same (a : List Int) (ha : a.length ≤ 9000000000000000000) : Ev (fun k => laws_eqIntS.f k a a) true := by
  have := eqInts_ev a a ha
  simpa using this
theorem eqSurf_same (r u : List Int) (hr : r.length ≤ 9000000000000000000) (hu : u.length ≤ 9000000000000000000) : Ev (fun k => laws_eqSurface.f k r u r u) true := by
  unfold laws_eqSurface.f
  refine Ev.bind (eqInts_same r hr) ?_
  simp only [if_true]
  refine Ev.bind (eqInts_same u hu) ?_
  simp only [if_true]
  exact Ev.now _
theorem inv_of {p c : List Nat} (hp : IsP p) (hc : c.length = p.length) (h : ∀ j, j < p.length → g c (g p j) = j) : c = inv p := by
  refine ext_g (by rw [inv_len, hc]) (fun x hx => ?_)
  rw [hc] at hx
  rw [g_inv hx]
  have := h (ix p x) (ix_lt hp hx)
  rw [g_ix hp hx] at this
  exact this
theorem inv_step {p c : List Nat} (hp : IsP p) {i : Nat} (hi : i < p.length) (hc : c.length = p.length) (h : ∀ j, j < i → g c (g p j) = j) : ∀ j, j < i + 1 → g (c.set (g p i) i) (g p j) = j := by
  intro j hj
  rw [g_set (by rw [hc]; exact g_lt hp hi)]
  by_cases e : j = i
  · subst e
    simp
  · rw [if_neg (fun k => e (g_inj hp (by omega) hi k.symm))]
    exact h j (by omega)
theorem spec_inv {p : List Nat} (hp : IsP p) (h24 : p.length ≤ 24) : Ev (fun k => spec_l02Inverse.f k (I p)) (I (inv p)) := by
  unfold spec_l02Inverse.f
  have H : ∀ (d i : Nat) (c : List Nat), i + d = p.length → c.length = p.length → (∀ j, j < i → g c (g p j) = j) → Ev (fun k => spec_l02Inverse.l0 k (I c) (I p) (p.length : Int) (i : Int)) (I (inv p)) := by
    intro d
    induction d with
    | zero =>
      intro i c h hc hx
      refine ev_succ ?_
      have h1 : ¬ ((i : Int) < (p.length : Int)) := by omega
      rw [← inv_of hp hc (fun j hj => hx j (by omega))]
      simp only [spec_l02Inverse.l0, h1, if_false]
      exact Ev.now _
    | succ d ih =>
      intro i c h hc hx
      refine ev_succ ?_
      have hi : i < p.length := by omega
      have h1 : (i : Int) < (p.length : Int) := by omega
      have h2 : (0 : Int) ≤ (i : Int) := by omega
      have h3 := w64s i (by omega)
      have h4 : (0 : Int) ≤ ((g p i : Nat) : Int) := by omega
      have h5 : ((g p i : Nat) : Int) < (c.length : Int) := by have := g_lt hp hi; omega
      simp only [spec_l02Inverse.l0, h1, h2, h3, h4, h5, rdI, I_len', I_set, if_true, Int.toNat_natCast]
      exact ih (i + 1) _ (by omega) (by rw [List.length_set]; exact hc) (inv_step hp hi hc hx)
  have h1 : (0 : Int) ≤ (p.length : Int) := by omega
  have h2 : p.length ≤ 35184372088832 := by omega
  simp only [I_len', h1, h2, if_true, Int.toNat_natCast]
  have := H p.length 0 (List.replicate p.length 0) (by omega) (by simp) (fun j hj => by omega)
  rw [I_rep] at this
  exact this
theorem impl_inv {p : List Nat} (hp : IsP p) (h24 : p.length ≤ 24) : Ev (fun k => impl_InversePerm.f k (I p)) (I (inv p)) := by
  unfold impl_InversePerm.f
  have H : ∀ (d i : Nat) (c : List Nat), i + d = p.length → c.length = p.length → (∀ j, j < i → g c (g p j) = j) → Ev (fun k => impl_InversePerm.l0 k (I c) (I p) (p.length : Int) (i : Int)) (I (inv p)) := by
    intro d
    induction d with
    | zero =>
      intro i c h hc hx
      refine ev_succ ?_
      have h1 : ¬ ((i : Int) < (p.length : Int)) := by omega
      rw [← inv_of hp hc (fun j hj => hx j (by omega))]
      simp only [impl_InversePerm.l0, h1, if_false]
      exact Ev.now _
    | succ d ih =>
      intro i c h hc hx
      refine ev_succ ?_
      have hi : i < p.length := by omega
      have h1 : (i : Int) < (p.length : Int) := by omega
      have h2 : (0 : Int) ≤ (i : Int) := by omega
      have h3 := w64s i (by omega)
      have h4 : (0 : Int) ≤ ((g p i : Nat) : Int) := by omega
      have h5 : ((g p i : Nat) : Int) < (c.length : Int) := by have := g_lt hp hi; omega
      simp only [impl_InversePerm.l0, h1, h2, h3, h4, h5, rdI, I_len', I_set, if_true, Int.toNat_natCast]
      exact ih (i + 1) _ (by omega) (by rw [List.length_set]; exact hc) (inv_step hp hi hc hx)
  refine Ev.bind (impl_permOk (I p)) ?_
  have h0 : permB (I p) = true := permB_I.mpr ⟨hp, h24⟩
  have h1 : (0 : Int) ≤ (p.length : Int) := by omega
  have h2 : p.length ≤ 35184372088832 := by omega
  simp only [h0, I_len', h1, h2, if_true, Int.toNat_natCast]
  have := H p.length 0 (List.replicate p.length 0) (by omega) (by simp) (fun j hj => by omega)
  rw [I_rep] at this
  exact this
end Go.Proofs.Ytoijcallajegfaa.M
end
section
/- Names from a square, and renaming: the program and the reference act alike. No conditions. -/
namespace Go.Proofs.Ytoijcallajegfaa.M
set_option linter.unusedVariables false
set_option linter.unusedSimpArgs false
open Go.RowKit Go.Proofs.YtoijcallajegfaaW.PrintWords Go.Proofs.YtoijcallajegfaaW.PrintLast Go.Proofs.YtoijcallajegfaaW.PrintMore Go.Proofs.Ytoijcallajegfaa.A
theorem set_mid5 {α : Type} (p : List α) (x y : α) (xs : List α) : (p ++ x :: xs).set p.length y = p ++ y :: xs := by
  induction p with
  | nil => rfl
  | cons a p ih => simp [ih]
theorem isP_reach {r u : List Nat} (hs : Sf r u) {s : Nat} (h : s < r.length) : IsP (reach r u s) ∧ (reach r u s).length = r.length := by
  obtain ⟨h1, h2⟩ := reach_full hs h
  have l1 := h1.le
  have l2 := nodup_sub_len5 (List.range r.length) (reach r u s) List.nodup_range (fun x hx => h2 x (List.mem_range.mp hx))
  rw [List.length_range] at l2
  have hl : (reach r u s).length = r.length := by omega
  exact ⟨⟨fun x hx => by rw [hl]; exact h1.lt x hx, h1.nd⟩, hl⟩
def nm (r u : List Nat) (s : Nat) : List Nat := inv (reach r u s)
theorem isP_nm {r u : List Nat} (hs : Sf r u) {s : Nat} (h : s < r.length) : IsP (nm r u s) ∧ (nm r u s).length = r.length := by
  obtain ⟨h1, h2⟩ := isP_reach hs h
  exact ⟨isP_inv h1, by unfold nm; rw [inv_len, h2]⟩
theorem ren_of {p q c : List Nat} (hq : IsP q) (hl : q.length = p.length) (hc : c.length = p.length) (h : ∀ j, j < p.length → g c (g q j) = g q (g p j)) : c = ren p q := by
  refine ext_g (by rw [ren_len, hc]) (fun x hx => ?_)
  rw [hc] at hx
  rw [g_ren hx]
  have hx' : ix q x < q.length := ix_lt hq (by omega)
  have := h (ix q x) (by omega)
  rw [g_ix hq (by omega)] at this
  exact this
theorem ren_step {p q c : List Nat} (hq : IsP q) (hl : q.length = p.length) {i : Nat} (hi : i < p.length) (hc : c.length = p.length) (h : ∀ j, j < i → g c (g q j) = g q (g p j)) : ∀ j, j < i + 1 → g (c.set (g q i) (g q (g p i))) (g q j) = g q (g p j) := by
  intro j hj
  have hlt : g q i < c.length := by rw [hc, ← hl]; exact g_lt hq (by omega)
  rw [g_set hlt]
  by_cases e : j = i
  · subst e
    simp
  · rw [if_neg (fun k => e (g_inj hq (by omega) (by omega) k.symm))]
    exact h j (by omega)
theorem spec_ren {p q : List Nat} (hp : IsP p) (hq : IsP q) (hl : q.length = p.length) (h24 : p.length ≤ 24) : Ev (fun k => spec_l02Rename.f k (I p) (I q)) (I (ren p q)) := by
  unfold spec_l02Rename.f
  have H : ∀ (d i : Nat) (c : List Nat), i + d = p.length → c.length = p.length → (∀ j, j < i → g c (g q j) = g q (g p j)) → Ev (fun k => spec_l02Rename.l0 k (I q) (I c) (I p) (p.length : Int) (i : Int)) (I (ren p q)) := by
    intro d
    induction d with
    | zero =>
      intro i c h hc hx
      refine ev_succ ?_
      have h1 : ¬ ((i : Int) < (p.length : Int)) := by omega
      rw [← ren_of hq hl hc (fun j hj => hx j (by omega))]
      simp only [spec_l02Rename.l0, h1, if_false]
      exact Ev.now _
    | succ d ih =>
      intro i c h hc hx
      refine ev_succ ?_
      have hi : i < p.length := by omega
      have k1 := g_lt hp hi
      have k2 := g_lt hq (i := i) (by omega)
      have h1 : (i : Int) < (p.length : Int) := by omega
      have h2 : (0 : Int) ≤ (i : Int) := by omega
      have h4 : (i : Int) < (q.length : Int) := by omega
      have h5 : (0 : Int) ≤ ((g p i : Nat) : Int) := by omega
      have h6 : ((g p i : Nat) : Int) < (q.length : Int) := by omega
      have h7 : (0 : Int) ≤ ((g q i : Nat) : Int) := by omega
      have h8 : ((g q i : Nat) : Int) < (c.length : Int) := by omega
      have h3 := w64s i (by omega)
      simp only [spec_l02Rename.l0, h1, h2, h3, h4, h5, h6, h7, h8, rdI, I_len', I_set, if_true, Int.toNat_natCast]
      exact ih (i + 1) _ (by omega) (by rw [List.length_set]; exact hc) (ren_step hq hl hi hc hx)
  have h1 : (0 : Int) ≤ (p.length : Int) := by omega
  have h2 : p.length ≤ 35184372088832 := by omega
  simp only [I_len', h1, h2, if_true, Int.toNat_natCast]
  have := H p.length 0 (List.replicate p.length 0) (by omega) (by simp) (fun j hj => by omega)
  rw [I_rep] at this
  exact this
theorem impl_ren {p q : List Nat} (hp : IsP p) (hq : IsP q) (hl : q.length = p.length) (h24 : p.length ≤ 24) : Ev (fun k => impl_RenamePerm.f k (I p) (I q)) (I (ren p q)) := by
  unfold impl_RenamePerm.f
  have H : ∀ (d i : Nat) (c : List Nat), i + d = p.length → c.length = p.length → (∀ j, j < i → g c (g q j) = g q (g p j)) → Ev (fun k => impl_RenamePerm.l0 k (I q) (I c) (I p) (p.length : Int) (i : Int)) (I (ren p q)) := by
    intro d
    induction d with
    | zero =>
      intro i c h hc hx
      refine ev_succ ?_
      have h1 : ¬ ((i : Int) < (p.length : Int)) := by omega
      rw [← ren_of hq hl hc (fun j hj => hx j (by omega))]
      simp only [impl_RenamePerm.l0, h1, if_false]
      exact Ev.now _
    | succ d ih =>
      intro i c h hc hx
      refine ev_succ ?_
      have hi : i < p.length := by omega
      have k1 := g_lt hp hi
      have k2 := g_lt hq (i := i) (by omega)
      have h1 : (i : Int) < (p.length : Int) := by omega
      have h2 : (0 : Int) ≤ (i : Int) := by omega
      have h4 : (i : Int) < (q.length : Int) := by omega
      have h5 : (0 : Int) ≤ ((g p i : Nat) : Int) := by omega
      have h6 : ((g p i : Nat) : Int) < (q.length : Int) := by omega
      have h7 : (0 : Int) ≤ ((g q i : Nat) : Int) := by omega
      have h8 : ((g q i : Nat) : Int) < (c.length : Int) := by omega
      have h3 := w64s i (by omega)
      simp only [impl_RenamePerm.l0, h1, h2, h3, h4, h5, h6, h7, h8, rdI, I_len', I_set, if_true, Int.toNat_natCast]
      exact ih (i + 1) _ (by omega) (by rw [List.length_set]; exact hc) (ren_step hq hl hi hc hx)
  have b1 : permB (I p) = true := permB_I.mpr ⟨hp, h24⟩
  have b2 : permB (I q) = true := permB_I.mpr ⟨hq, by omega⟩
  refine Ev.bind (impl_permOk _) ?_
  simp only [b1, if_true]
  refine Ev.bind (impl_permOk _) ?_
  have e : ((p.length : Int) != (q.length : Int)) = false := by rw [bne_eq_false_iff_eq]; omega
  simp only [b2, I_len', e, if_true]
  refine ev_succ ?_
  have h1 : (0 : Int) ≤ (p.length : Int) := by omega
  have h2 : p.length ≤ 35184372088832 := by omega
  simp only [impl_RenamePerm.j0, I_len', h1, h2, Bool.false_eq_true, if_false, if_true, Int.toNat_natCast]
  have := H p.length 0 (List.replicate p.length 0) (by omega) (by simp) (fun j hj => by omega)
  rw [I_rep] at this
  exact this
def rnS (r u q : List Nat) : List Nat × List Nat := (ren r q, ren u q)
theorem spec_renS {r u q : List Nat} (hs : Sf r u) (hq : IsP q) (hl : q.length = r.length) : Ev (fun k => spec_l03Rename.f k (I r) (I u) (I q)) (I (rnS r u q).1, I (rnS r u q).2) := by
  unfold spec_l03Rename.f
  exact Ev.bind (spec_ren hs.pr hq hl hs.le) (Ev.bind (spec_ren hs.pu hq (by rw [hl, hs.eq]) (by rw [hs.eq]; exact hs.le)) (Ev.now _))
theorem impl_renS {r u q : List Nat} (hs : Sf r u) (hq : IsP q) (hl : q.length = r.length) : Ev (fun k => impl_RenameSurface.f k (I r) (I u) (I q)) (I (rnS r u q).1, I (rnS r u q).2, true) := by
  unfold impl_RenameSurface.f
  have h0 := surfB_I.mpr hs
  have hle := hs.le
  have b2 : permB (I q) = true := permB_I.mpr ⟨hq, by omega⟩
  refine Ev.bind (impl_surf _ _) ?_
  simp only [h0, if_true]
  refine Ev.bind (impl_permOk _) ?_
  have e : ((q.length : Int) != (r.length : Int)) = false := by rw [bne_eq_false_iff_eq]; omega
  simp only [b2, I_len', e, if_true]
  refine ev_succ ?_
  simp only [impl_RenameSurface.j0, Bool.false_eq_true, if_false]
  exact Ev.bind (impl_ren hs.pr hq hl hs.le) (Ev.bind (impl_ren hs.pu hq (by rw [hl, hs.eq]) (by rw [hs.eq]; exact hs.le)) (Ev.now _))
theorem spec_names {r u : List Nat} (hs : Sf r u) {s : Nat} (h : s < r.length) : Ev (fun k => spec_l03Names.f k (I r) (I u) (s : Int)) (I (nm r u s)) := by
  obtain ⟨h1, h2⟩ := isP_reach hs h
  unfold spec_l03Names.f
  exact Ev.bind (reach_ev hs.pr hs.pu hs.eq hs.le s h) (Ev.bind (spec_inv h1 (by rw [h2]; exact hs.le)) (Ev.now _))
def nmP (n : Nat) (out : List Nat) : List Int := (List.range n).map (fun x => if x ∈ out then ((out.idxOf x : Nat) : Int) else -1)
theorem nmP_len (n : Nat) (out : List Nat) : (nmP n out).length = n := by simp [nmP]
theorem rd_nmP {n : Nat} {out : List Nat} {x : Nat} (h : x < n) : rd (nmP n out) (x : Int) = if x ∈ out then ((out.idxOf x : Nat) : Int) else -1 := by
  rw [rd_get _ _ (by rw [nmP_len]; exact h)]
  simp [nmP]
theorem nmP_add {n : Nat} {out : List Nat} {x : Nat} (h : x < n) (hn : x ∉ out) : (nmP n out).set x (out.length : Int) = nmP n (out ++ [x]) := by
  refine ext_rd (by rw [List.length_set, nmP_len, nmP_len]) (fun i hi => ?_)
  rw [List.length_set, nmP_len] at hi
  rw [rd_set (by rw [nmP_len]; exact h), rd_nmP hi, rd_nmP hi]
  by_cases e : x = i
  · subst e
    have : x ∈ out ++ [x] := by simp
    rw [if_pos rfl, if_pos this, List.idxOf_append, if_neg hn]
    simp
  · rw [if_neg e]
    by_cases hm : i ∈ out
    · have : i ∈ out ++ [x] := by simp [hm]
      rw [if_pos hm, if_pos this, List.idxOf_append, if_pos hm]
    · have : i ∉ out ++ [x] := by simp [hm]; omega
      rw [if_neg hm, if_neg this]
theorem nmP_full {n : Nat} {out : List Nat} (hl : out.length = n) (h : ∀ x, x < n → x ∈ out) : nmP n out = I (inv out) := by
  refine ext_rd (by rw [nmP_len, I_len, inv_len, hl]) (fun i hi => ?_)
  rw [nmP_len] at hi
  rw [rd_nmP hi, if_pos (h i hi), rdI, g_inv (by omega)]
  rfl
theorem names_one {p q : List Nat} {out pr : List Nat} (a j : Nat) (hj : j < pr.length) (hpr : pr.length ≤ 2) (hl : out.length ≤ 1000) (hx : g pr j < p.length) (res : List Int)
    (H : Ev (fun k => impl_NamesFrom.l2 k (nmP p.length (st1 out (g pr j))) (I (st1 out (g pr j))) (a : Int) (I pr) (pr.length : Int) ((j + 1 : Nat) : Int) (I p) (I q)) res) :
    Ev (fun k => impl_NamesFrom.l2 k (nmP p.length out) (I out) (a : Int) (I pr) (pr.length : Int) (j : Int) (I p) (I q)) res := by
  refine ev_succ ?_
  have h1 : (j : Int) < (pr.length : Int) := by omega
  have h2 : (0 : Int) ≤ (j : Int) := by omega
  have h4 : (I out).length < 17592186044416 := by rw [I_len]; omega
  have h5 : (0 : Int) ≤ ((g pr j : Nat) : Int) := by omega
  have h6 : ((g pr j : Nat) : Int) < ((nmP p.length out).length : Int) := by rw [nmP_len]; omega
  have h7 : rd (nmP p.length out) ((g pr j : Nat) : Int) = if g pr j ∈ out then ((out.idxOf (g pr j) : Nat) : Int) else -1 := rd_nmP hx
  have h3 := w64s j (by omega)
  by_cases hin : g pr j ∈ out
  · have e : st1 out (g pr j) = out := by unfold st1; rw [if_pos hin]
    rw [e] at H
    rw [if_pos hin] at h7
    have h8 : ¬ (((out.idxOf (g pr j) : Nat) : Int) < 0) := by omega
    simp only [impl_NamesFrom.l2, h1, h2, h3, h5, h6, h7, h8, rdI, I_len', if_true, if_false]
    exact H
  · have e : st1 out (g pr j) = out ++ [g pr j] := by unfold st1; rw [if_neg hin]
    rw [e, ← nmP_add hx hin, ← I_snoc] at H
    rw [if_neg hin] at h7
    have h8 : (-1 : Int) < 0 := by omega
    simp only [impl_NamesFrom.l2, h1, h2, h3, h4, h5, h6, h7, h8, rdI, I_len', if_true, Int.toNat_natCast]
    exact H
theorem names_loop {p q : List Nat} (hp : IsP p) (hq : IsP q) (hl : q.length = p.length) (h24 : p.length ≤ 24) (f : Nat) : ∀ (a : Nat) (out : List Nat), RInv p.length out → a ≤ out.length → p.length < f + a →
    Ev (fun k => impl_NamesFrom.l1 k (nmP p.length out) (I out) (a : Int) (I p) (I q)) (nmP p.length (bfs p q f a out)) := by
  induction f with
  | zero =>
    intro a out hr ha hf
    have := hr.le
    omega
  | succ f ih =>
    intro a out hr ha hf
    have hle := hr.le
    refine ev_succ ?_
    by_cases h : a < out.length
    · have hx := hr.g h
      have hg1 := g_lt hp hx
      have hg2 : g q (g out a) < p.length := by have := g_lt hq (i := g out a) (by omega); omega
      have r1 := hr.st hg1
      have r2 := r1.st hg2
      have h1 : (a : Int) < (out.length : Int) := by omega
      have h2 : (0 : Int) ≤ (a : Int) := by omega
      have h3 : ((g out a : Nat) : Int) < (p.length : Int) := by omega
      have h4 : (0 : Int) ≤ ((g out a : Nat) : Int) := by omega
      have h5 : ((g out a : Nat) : Int) < (q.length : Int) := by omega
      have hb : bfs p q (f + 1) a out = bfs p q f (a + 1) (st1 (st1 out (g p (g out a))) (g q (g out a))) := by
        rw [bfs, if_pos h]
      rw [hb]
      have key := ih (a + 1) _ r2 (Nat.le_trans (by omega : a + 1 ≤ out.length) (Nat.le_trans (st1_len _ _) (st1_len _ _))) (by omega)
      have hq1 : a ≤ 9000000000000000000 := by omega
      have l1 := r1.le
      simp only [impl_NamesFrom.l1, h1, h2, h3, h4, h5, rdI, I_len', if_true, Option.bind_some, I_pair]
      refine names_one (q := q) a 0 (by simp) (by simp) (by omega) hg1 _ ?_
      refine names_one (q := q) a 1 (by simp) (by simp) (by simp only [g, List.getD_cons_zero] at l1 ⊢; omega) hg2 _ ?_
      refine ev_succ ?_
      have h7 : ¬ (((1 + 1 : Nat) : Int) < (([g p (g out a), g q (g out a)] : List Nat).length : Int)) := by simp
      have h6 := w64s a hq1
      simp only [impl_NamesFrom.l2, h7, h6, if_false]
      exact key
    · have h1 : ¬ ((a : Int) < (out.length : Int)) := by omega
      have hb : bfs p q (f + 1) a out = out := by rw [bfs, if_neg h]
      rw [hb]
      simp only [impl_NamesFrom.l1, h1, I_len', if_false]
      exact Ev.now _
theorem impl_names {r u : List Nat} (hs : Sf r u) {s : Nat} (h : s < r.length) : Ev (fun k => impl_NamesFrom.f k (I r) (I u) (s : Int)) (I (nm r u s)) := by
  have hle := hs.le
  have h0 := surfB_I.mpr hs
  obtain ⟨k1, k2⟩ := reach_full hs h
  obtain ⟨_, k3⟩ := isP_reach hs h
  have fin := names_loop hs.pr hs.pu hs.eq hs.le (r.length + 1) 0 [s] ⟨by simp, by simpa using h⟩ (by simp) (by omega)
  have e1 : bfs r u (r.length + 1) 0 [s] = reach r u s := rfl
  rw [e1, nmP_full k3 k2] at fin
  have H : ∀ d i : Nat, i + d = r.length → Ev (fun k => impl_NamesFrom.l0 k (s : Int) (List.replicate i (-1) ++ List.replicate d 0) (r.length : Int) (i : Int) (I r) (I u)) (I (nm r u s)) := by
    intro d
    induction d with
    | zero =>
      intro i hi
      obtain rfl : i = r.length := by omega
      refine ev_succ ?_
      have c1 : ¬ ((r.length : Int) < (r.length : Int)) := by omega
      have c2 : (0 : Int) ≤ (s : Int) := by omega
      have c3 : (s : Int) < (((List.replicate r.length (-1) ++ List.replicate 0 0 : List Int)).length : Int) := by simp; omega
      have c4 : (List.replicate r.length (-1) ++ List.replicate 0 0 : List Int).set ((s : Int)).toNat 0 = nmP r.length [s] := by
        refine ext_rd (by rw [List.length_set, nmP_len]; simp) (fun i hi => ?_)
        rw [List.length_set] at hi
        have hi' : i < r.length := by simpa using hi
        rw [Int.toNat_natCast, rd_set (by simp; exact h), rd_nmP hi']
        by_cases e : s = i
        · subst e
          simp
        · rw [if_neg e]
          have : i ∉ [s] := by simp; omega
          rw [if_neg this, rd_get _ _ hi]
          simp
      simp only [impl_NamesFrom.l0, c1, c2, c3, c4, if_true, if_false]
      exact fin
    | succ d ih =>
      intro i hi
      refine ev_succ ?_
      have c1 : (i : Int) < (r.length : Int) := by omega
      have c2 : (0 : Int) ≤ (i : Int) := by omega
      have c3 : (i : Int) < (((List.replicate i (-1) ++ List.replicate (d + 1) 0 : List Int)).length : Int) := by simp; omega
      have c4 : (List.replicate i (-1) ++ List.replicate (d + 1) 0 : List Int).set ((i : Int)).toNat (-1) = List.replicate (i + 1) (-1) ++ List.replicate d 0 := by
        have hm := set_mid5 (List.replicate i (-1 : Int)) 0 (-1) (List.replicate d 0)
        rw [List.length_replicate] at hm
        rw [Int.toNat_natCast, List.replicate_succ, hm, List.replicate_succ', List.append_assoc]
        rfl
      have c5 := w64s i (by omega)
      simp only [impl_NamesFrom.l0, c1, c2, c3, c4, c5, if_true]
      exact ih (i + 1) (by omega)
  unfold impl_NamesFrom.f
  refine Ev.bind (impl_surf _ _) ?_
  have n1 : ¬ ((s : Int) < 0) := by omega
  have n2 : decide ((s : Int) ≥ (r.length : Int)) = false := by rw [decide_eq_false_iff_not]; omega
  simp only [h0, n1, n2, I_len', if_true, if_false]
  refine ev_succ ?_
  have z1 : (0 : Int) ≤ (r.length : Int) := by omega
  have z2 : r.length ≤ 35184372088832 := by omega
  simp only [impl_NamesFrom.j0, Bool.false_eq_true, I_len', z1, z2, if_true, if_false, Int.toNat_natCast, Option.bind_some, List.length_replicate]
  have := H r.length 0 (Nat.zero_add _)
  simpa using this
end Go.Proofs.Ytoijcallajegfaa.M
end
section
/- The canonical form: the program and the reference find the same one. No conditions. -/
namespace Go.Proofs.Ytoijcallajegfaa.M
set_option linter.unusedVariables false
set_option linter.unusedSimpArgs false
open Go.RowKit Go.Proofs.YtoijcallajegfaaW.PrintWords Go.Proofs.YtoijcallajegfaaW.PrintLast Go.Proofs.YtoijcallajegfaaW.PrintMore Go.Proofs.Ytoijcallajegfaa.A
def lexC : List Nat → List Nat → Int
  | [], [] => 0
  | [], _ :: _ => -1
  | _ :: _, [] => 1
  | a :: l, b :: m => if a < b then -1 else if b < a then 1 else lexC l m
theorem cmp_ev (a b : Nat) : cmp_Compare_int.f (a : Int) (b : Int) = some (if a < b then -1 else if b < a then 1 else 0) := by
  unfold cmp_Compare_int.f cmp_isNaN_int.f
  simp only [bne_self_eq_false, Option.bind_some, Bool.false_eq_true, if_false]
  by_cases h1 : a < b
  · have : (a : Int) < (b : Int) := by omega
    simp only [h1, this, if_true]
  · have n1 : ¬ (a : Int) < (b : Int) := by omega
    by_cases h2 : b < a
    · have : (a : Int) > (b : Int) := by omega
      simp only [h1, n1, h2, this, if_true, if_false]
    · have n2 : ¬ (a : Int) > (b : Int) := by omega
      simp only [h1, n1, h2, n2, if_false]
theorem lexC_eq : ∀ (a b : List Nat), lexC a b = 0 ↔ a = b := by
  intro a
  induction a with
  | nil => intro b; cases b <;> simp [lexC]
  | cons x a ih =>
    intro b
    cases b with
    | nil => simp [lexC]
    | cons y b =>
      unfold lexC
      by_cases h1 : x < y
      · simp [h1]; omega
      · by_cases h2 : y < x
        · simp [h1, h2]; omega
        · have e : x = y := by omega
          subst e
          simp [h1, ih]
theorem compare_ev (a b : List Nat) (hl : a.length ≤ 1000000) : Ev (fun k => slices_Compare_int_int.f k (I a) (I b)) (lexC a b) := by
  unfold slices_Compare_int_int.f
  have H : ∀ d i : Nat, i + d = a.length → i ≤ b.length → Ev (fun k => slices_Compare_int_int.l0 k (I a) (I b) (I a) (a.length : Int) (i : Int)) (lexC (a.drop i) (b.drop i)) := by
    intro d
    induction d with
    | zero =>
      intro i hi hb
      refine ev_succ ?_
      have c1 : ¬ ((i : Int) < (a.length : Int)) := by omega
      rw [List.drop_of_length_le (l := a) (by omega)]
      simp only [slices_Compare_int_int.l0, c1, I_len', if_false]
      by_cases h : (a.length : Int) < (b.length : Int)
      · have : lexC [] (b.drop i) = -1 := by
          rw [List.drop_eq_getElem_cons (by omega)]
          rfl
        simp only [h, if_true, this]
        exact Ev.now _
      · have : lexC [] (b.drop i) = 0 := by
          rw [List.drop_of_length_le (by omega)]
          rfl
        simp only [h, if_false, this]
        exact Ev.now _
    | succ d ih =>
      intro i hi hb
      have hia : i < a.length := by omega
      rw [List.drop_eq_getElem_cons hia, ← g_get hia]
      have c1 : (i : Int) < (a.length : Int) := by omega
      have c2 : (0 : Int) ≤ (i : Int) := by omega
      have c3 := w64s i (by omega)
      refine ev_succ ?_
      by_cases h : i < b.length
      · rw [List.drop_eq_getElem_cons h, ← g_get h]
        have n1 : ¬ ((i : Int) ≥ (b.length : Int)) := by omega
        have n2 : (i : Int) < (b.length : Int) := by omega
        simp only [slices_Compare_int_int.l0, c1, c2, c3, n1, n2, I_len', rdI, cmp_ev, Option.bind_some, if_true, if_false]
        unfold lexC
        by_cases h1 : g a i < g b i
        · have z : ¬ ((-1 : Int) = 0) := by omega
          simp only [h1, z, if_true, if_false]
          exact Ev.now _
        · by_cases h2 : g b i < g a i
          · have z : ¬ ((1 : Int) = 0) := by omega
            simp only [h1, h2, z, if_true, if_false]
            exact Ev.now _
          · simp only [h1, h2, if_true, if_false]
            exact ih (i + 1) (by omega) (by omega)
      · have n1 : (i : Int) ≥ (b.length : Int) := by omega
        rw [List.drop_of_length_le (l := b) (by omega)]
        simp only [slices_Compare_int_int.l0, c1, c2, n1, I_len', if_true]
        exact Ev.now _
  have key := H a.length 0 (Nat.zero_add _) (Nat.zero_le _)
  rw [List.drop_zero, List.drop_zero] at key
  simp only [I_len']
  exact key
theorem less_ev (a b : List Nat) (hl : a.length ≤ 1000000) (he : b.length = a.length) : Ev (fun k => spec_l03Less.f k (I a) (I b)) (decide (lexC a b < 0)) := by
  unfold spec_l03Less.f
  have H : ∀ d i : Nat, i + d = a.length → Ev (fun k => spec_l03Less.l0 k (I b) (I a) (a.length : Int) (i : Int)) (decide (lexC (a.drop i) (b.drop i) < 0)) := by
    intro d
    induction d with
    | zero =>
      intro i hi
      refine ev_succ ?_
      have c1 : ¬ ((i : Int) < (a.length : Int)) := by omega
      rw [List.drop_of_length_le (l := a) (by omega), List.drop_of_length_le (l := b) (by omega)]
      simp only [spec_l03Less.l0, c1, if_false]
      exact Ev.now _
    | succ d ih =>
      intro i hi
      have hia : i < a.length := by omega
      have hib : i < b.length := by omega
      rw [List.drop_eq_getElem_cons hia, ← g_get hia, List.drop_eq_getElem_cons hib, ← g_get hib]
      have c1 : (i : Int) < (a.length : Int) := by omega
      have c2 : (0 : Int) ≤ (i : Int) := by omega
      have n2 : (i : Int) < (b.length : Int) := by omega
      have c3 := w64s i (by omega)
      refine ev_succ ?_
      simp only [spec_l03Less.l0, c1, c2, c3, n2, I_len', rdI, if_true]
      unfold lexC
      by_cases h1 : g a i < g b i
      · have z1 : ¬ (((g a i : Nat) : Int) = ((g b i : Nat) : Int)) := by omega
        have z2 : decide (((g a i : Nat) : Int) < ((g b i : Nat) : Int)) = true := by rw [decide_eq_true_iff]; omega
        have z3 : decide ((-1 : Int) < 0) = true := by decide
        simp only [h1, z1, z2, z3, if_true, if_false]
        exact Ev.now _
      · by_cases h2 : g b i < g a i
        · have z1 : ¬ (((g a i : Nat) : Int) = ((g b i : Nat) : Int)) := by omega
          have z2 : decide (((g a i : Nat) : Int) < ((g b i : Nat) : Int)) = false := by rw [decide_eq_false_iff_not]; omega
          have z3 : decide ((1 : Int) < 0) = false := by decide
          simp only [h1, h2, z1, z2, z3, if_true, if_false]
          exact Ev.now _
        · have z1 : ((g a i : Nat) : Int) = ((g b i : Nat) : Int) := by omega
          simp only [h1, h2, z1, if_true, if_false]
          exact ih (i + 1) (by omega)
  have key := H a.length 0 (Nat.zero_add _)
  rw [List.drop_zero, List.drop_zero] at key
  simp only [I_len']
  exact key
def cmpS (a b : List Nat × List Nat) : Int := if lexC a.1 b.1 = 0 then lexC a.2 b.2 else lexC a.1 b.1
theorem impl_cmpS (a b : List Nat × List Nat) (h1 : a.1.length ≤ 1000000) (h2 : a.2.length ≤ 1000000) : Ev (fun k => impl_compareSurfaces.f k (I a.1) (I a.2) (I b.1) (I b.2)) (cmpS a b) := by
  unfold impl_compareSurfaces.f cmpS
  refine Ev.bind (compare_ev a.1 b.1 h1) ?_
  by_cases h : lexC a.1 b.1 = 0
  · simp only [h, if_true]
    exact Ev.bind (compare_ev a.2 b.2 h2) (Ev.now _)
  · simp only [h, if_false]
    exact Ev.now _
theorem sameList_nat (a b : List Nat) (h : a.length ≤ 1000000000) : Ev (fun k => spec_SameList.f k (I a) (I b)) (decide (a = b)) := by
  unfold spec_SameList.f
  by_cases hl : (a.length : Int) = (b.length : Int)
  · have hl' : a.length = b.length := by omega
    simp only [I_len', hl, ne_eq, not_true_eq_false, if_false, if_true]
    have H : ∀ d i : Nat, i + d = a.length → Ev (fun k => spec_SameList.l0 k (I b) (I a) (b.length : Int) (i : Int)) (decide (a.drop i = b.drop i)) := by
      intro d
      induction d with
      | zero =>
        intro i hi
        refine ev_succ ?_
        have c1 : ¬ ((i : Int) < (b.length : Int)) := by omega
        have e : decide (a.drop i = b.drop i) = true := by rw [List.drop_of_length_le (by omega), List.drop_of_length_le (by omega)]; simp
        simp only [spec_SameList.l0, c1, if_false, e]
        exact Ev.now _
      | succ d ih =>
        intro i hi
        have hia : i < a.length := by omega
        have hib : i < b.length := by omega
        rw [List.drop_eq_getElem_cons hia, ← g_get hia, List.drop_eq_getElem_cons hib, ← g_get hib]
        have c1 : (i : Int) < (b.length : Int) := by omega
        have c2 : (0 : Int) ≤ (i : Int) := by omega
        have c4 : (i : Int) < (a.length : Int) := by omega
        have c3 := w64s i (by omega)
        refine ev_succ ?_
        by_cases he : g a i = g b i
        · have z : ((g a i : Nat) : Int) = ((g b i : Nat) : Int) := by omega
          have e : decide (g a i :: a.drop (i + 1) = g b i :: b.drop (i + 1)) = decide (a.drop (i + 1) = b.drop (i + 1)) := by simp [he]
          rw [e]
          simp only [spec_SameList.l0, c1, c2, c3, c4, I_len', rdI, z, if_true]
          exact ih (i + 1) (by omega)
        · have z : ¬ (((g a i : Nat) : Int) = ((g b i : Nat) : Int)) := by omega
          have e : decide (g a i :: a.drop (i + 1) = g b i :: b.drop (i + 1)) = false := by simp [he]
          rw [e]
          simp only [spec_SameList.l0, c1, c2, c4, I_len', rdI, z, if_true, if_false]
          exact Ev.now _
    have key := H a.length 0 (Nat.zero_add _)
    rw [List.drop_zero, List.drop_zero] at key
    exact key
  · have e : decide (a = b) = false := by
      rw [decide_eq_false_iff_not]
      intro e
      rw [e] at hl
      exact hl rfl
    simp only [I_len', hl, ne_eq, not_false_eq_true, if_true, if_false, e]
    exact Ev.now _
theorem spec_before (a b : List Nat × List Nat) (h1 : a.1.length ≤ 1000000) (h2 : a.2.length ≤ 1000000) (e1 : b.1.length = a.1.length) (e2 : b.2.length = a.2.length) : Ev (fun k => spec_l03Before.f k (I a.1) (I a.2) (I b.1) (I b.2)) (decide (cmpS a b < 0)) := by
  unfold spec_l03Before.f cmpS
  refine Ev.bind (sameList_nat a.1 b.1 (by omega)) ?_
  by_cases h : a.1 = b.1
  · have z := (lexC_eq a.1 b.1).mpr h
    rw [z]
    simp only [h, decide_true, if_true]
    exact Ev.bind (less_ev a.2 b.2 h2 e2) (Ev.now _)
  · have z : ¬ lexC a.1 b.1 = 0 := fun k => h ((lexC_eq _ _).mp k)
    simp only [h, z, decide_false, Bool.false_eq_true, if_false]
    exact Ev.bind (less_ev a.1 b.1 h1 e1) (Ev.now _)
def rS (r u : List Nat) (s : Nat) : List Nat × List Nat := rnS r u (nm r u s)
theorem rS_len {r u : List Nat} (s : Nat) : (rS r u s).1.length = r.length ∧ (rS r u s).2.length = u.length := ⟨ren_len _ _, ren_len _ _⟩
def canK (r u : List Nat) : Nat → List Nat × List Nat
  | 0 => rS r u 0
  | k + 1 => if cmpS (rS r u (k + 1)) (canK r u k) < 0 then rS r u (k + 1) else canK r u k
theorem canK_len {r u : List Nat} (k : Nat) : (canK r u k).1.length = r.length ∧ (canK r u k).2.length = u.length := by
  induction k with
  | zero => exact rS_len 0
  | succ k ih =>
    unfold canK
    split
    · exact rS_len _
    · exact ih
def canS (r u : List Nat) : List Nat × List Nat := canK r u (r.length - 1)
theorem spec_canon {r u : List Nat} (hs : Sf r u) : Ev (fun k => spec_l03Canon.f k (I r) (I u)) (I (canS r u).1, I (canS r u).2) := by
  have hle := hs.le
  have heq := hs.eq
  have hpos := hs.pos
  unfold spec_l03Canon.f
  have e0 := spec_names hs hpos
  have q0 := isP_nm hs hpos
  refine Ev.bind e0 (Ev.bind (spec_renS hs q0.1 q0.2) ?_)
  have H : ∀ d i : Nat, i + 1 + d = r.length → Ev (fun k => spec_l03Canon.l0 k ((i + 1 : Nat) : Int) (I r) (I u) (I (canK r u i).1) (I (canK r u i).2)) (I (canS r u).1, I (canS r u).2) := by
    intro d
    induction d with
    | zero =>
      intro i hi
      refine ev_succ ?_
      have c1 : ¬ (((i + 1 : Nat) : Int) < (r.length : Int)) := by omega
      have e : canS r u = canK r u i := by
        unfold canS
        congr 1
        omega
      rw [e]
      simp only [spec_l03Canon.l0, c1, I_len', if_false]
      exact Ev.now _
    | succ d ih =>
      intro i hi
      have hi1 : i + 1 < r.length := by omega
      have q1 := isP_nm hs hi1
      have c1 : ((i + 1 : Nat) : Int) < (r.length : Int) := by omega
      have c3 := w64s (i + 1) (by omega)
      have lk := canK_len (r := r) (u := u) i
      have lr := rS_len (r := r) (u := u) (i + 1)
      refine ev_succ ?_
      simp only [spec_l03Canon.l0, c1, c3, I_len', if_true]
      refine Ev.bind (spec_names hs hi1) (Ev.bind (spec_renS hs q1.1 q1.2) ?_)
      refine Ev.bind (spec_before (rS r u (i + 1)) (canK r u i) (by rw [lr.1]; omega) (by rw [lr.2]; omega) (by rw [lr.1, lk.1]) (by rw [lr.2, lk.2])) ?_
      have key := ih (i + 1) (by omega)
      unfold canK at key
      by_cases h : cmpS (rS r u (i + 1)) (canK r u i) < 0
      · rw [if_pos h] at key
        simp only [h, decide_true, if_true]
        exact key
      · rw [if_neg h] at key
        simp only [h, decide_false, Bool.false_eq_true, if_false]
        exact key
  have key := H (r.length - 1) 0 (by omega)
  exact key
def namedL (r u : List Nat) (n : Nat) : List S33 := (List.range n).map (fun s => (⟨I (rS r u s).1, I (rS r u s).2⟩ : S33))
theorem namedL_len (r u : List Nat) (n : Nat) : (namedL r u n).length = n := by simp [namedL]
theorem rd_named {r u : List Nat} {n i : Nat} (h : i < n) : rd_T33 (namedL r u n) (i : Int) = ⟨I (rS r u i).1, I (rS r u i).2⟩ := by
  unfold rd_T33 namedL
  simp [List.getD_eq_getElem?_getD, h]
theorem count_sq {r u : List Nat} (hs : Sf r u) : Ev (fun k => impl_CountSquares.f k (I r) (I u)) (r.length : Int) := by
  unfold impl_CountSquares.f
  refine Ev.bind (impl_surf _ _) ?_
  have h0 := surfB_I.mpr hs
  simp only [h0, I_len', if_true]
  exact Ev.now _
theorem impl_named {r u : List Nat} (hs : Sf r u) : Ev (fun k => impl_namedFrom.f k (I r) (I u)) (namedL r u r.length) := by
  have hle := hs.le
  unfold impl_namedFrom.f
  have H : ∀ d i : Nat, i + d = r.length → Ev (fun k => impl_namedFrom.l0 k (namedL r u i) (i : Int) (I r) (I u)) (namedL r u r.length) := by
    intro d
    induction d with
    | zero =>
      intro i hi
      obtain rfl : i = r.length := by omega
      refine ev_succ ?_
      simp only [impl_namedFrom.l0]
      refine Ev.bind (count_sq hs) ?_
      have c1 : ¬ ((r.length : Int) < (r.length : Int)) := by omega
      simp only [c1, if_false]
      exact Ev.now _
    | succ d ih =>
      intro i hi
      have hil : i < r.length := by omega
      have q1 := isP_nm hs hil
      refine ev_succ ?_
      simp only [impl_namedFrom.l0]
      refine Ev.bind (count_sq hs) ?_
      have c1 : (i : Int) < (r.length : Int) := by omega
      have c2 : (namedL r u i).length < 2932031007402 := by rw [namedL_len]; omega
      have c3 := w64s i (by omega)
      simp only [c1, if_true]
      refine Ev.bind (impl_names hs hil) (Ev.bind (impl_renS hs q1.1 q1.2) ?_)
      have e : namedL r u i ++ [(⟨I (rnS r u (nm r u i)).1, I (rnS r u (nm r u i)).2⟩ : S33)] = namedL r u (i + 1) := by
        unfold namedL
        rw [List.range_succ, List.map_append]
        rfl
      simp only [c2, c3, e, if_true]
      exact ih (i + 1) (by omega)
  exact H r.length 0 (Nat.zero_add _)
theorem impl_canon {r u : List Nat} (hs : Sf r u) : Ev (fun k => impl_CanonOf.f k (I r) (I u)) (I (canS r u).1, I (canS r u).2, true) := by
  have hle := hs.le
  have heq := hs.eq
  have hpos := hs.pos
  unfold impl_CanonOf.f
  refine Ev.bind (impl_named hs) ?_
  have c0 : ¬ ((r.length : Int) = 0) := by omega
  simp only [namedL_len, c0, if_false]
  refine Ev.bind (a := (I (canS r u).1, I (canS r u).2)) ?_ (Ev.now _)
  unfold impl_Surface_59.f
  have c1 : ¬ ((r.length : Int) < 1) := by omega
  have c2 : (0 : Int) < (r.length : Int) := by omega
  have e0 : rd_T33 (namedL r u r.length) 0 = ⟨I (canK r u 0).1, I (canK r u 0).2⟩ := rd_named hpos
  simp only [namedL_len, c1, c2, e0, if_true, if_false]
  have H : ∀ d i : Nat, i + 1 + d = r.length → Ev (fun k => impl_Surface_59.l0 k (namedL r u r.length) ((i + 1 : Nat) : Int) (I (canK r u i).1) (I (canK r u i).2)) (I (canS r u).1, I (canS r u).2) := by
    intro d
    induction d with
    | zero =>
      intro i hi
      refine ev_succ ?_
      have c1 : ¬ (((i + 1 : Nat) : Int) < (r.length : Int)) := by omega
      have e : canS r u = canK r u i := by
        unfold canS
        congr 1
        omega
      rw [e]
      simp only [impl_Surface_59.l0, c1, namedL_len, if_false]
      exact Ev.now _
    | succ d ih =>
      intro i hi
      have hi1 : i + 1 < r.length := by omega
      have c1 : ((i + 1 : Nat) : Int) < (r.length : Int) := by omega
      have c2 : (0 : Int) ≤ ((i + 1 : Nat) : Int) := by omega
      have c4 : rd_T33 (namedL r u r.length) ((i + 1 : Nat) : Int) = ⟨I (rS r u (i + 1)).1, I (rS r u (i + 1)).2⟩ := rd_named hi1
      have c3 := w64s (i + 1) (by omega)
      have lr := rS_len (r := r) (u := u) (i + 1)
      refine ev_succ ?_
      simp only [impl_Surface_59.l0, c1, c2, c3, c4, namedL_len, if_true]
      refine Ev.bind (impl_cmpS (rS r u (i + 1)) (canK r u i) (by rw [lr.1]; omega) (by rw [lr.2]; omega)) ?_
      have key := ih (i + 1) (by omega)
      unfold canK at key
      by_cases h : cmpS (rS r u (i + 1)) (canK r u i) < 0
      · rw [if_pos h] at key
        simp only [h, if_true]
        exact key
      · rw [if_neg h] at key
        simp only [h, if_false]
        exact key
  exact H (r.length - 1) 0 (by omega)
end Go.Proofs.Ytoijcallajegfaa.M
end
section
/- One round about a corner; first places in lists. No conditions. -/
namespace Go.Proofs.Ytoijcallajegfaa.M
set_option linter.unusedVariables false
set_option linter.unusedSimpArgs false
open Go.RowKit Go.Proofs.YtoijcallajegfaaW.PrintWords Go.Proofs.YtoijcallajegfaaW.PrintLast Go.Proofs.YtoijcallajegfaaW.PrintMore Go.Proofs.Ytoijcallajegfaa.A
theorem impl_then {p q : List Nat} (hp : IsP p) (hq : IsP q) (hl : p.length = q.length) (h24 : p.length ≤ 24) : Ev (fun k => impl_ThenPerm.f k (I p) (I q)) (I (thn p q)) := by
  unfold impl_ThenPerm.f
  refine Ev.bind (impl_permOk (I p)) ?_
  have e1 : permB (I p) = true := permB_I.mpr ⟨hp, h24⟩
  have e2 : permB (I q) = true := permB_I.mpr ⟨hq, by omega⟩
  simp only [e1, if_true]
  refine Ev.bind (impl_permOk (I q)) ?_
  have e3 : ((p.length : Int) != (q.length : Int)) = false := by simp [hl]
  simp only [e2, if_true, I_len', e3]
  refine ev_succ ?_
  have h1 : (0 : Int) ≤ (p.length : Int) := by omega
  have h2 : p.length ≤ 35184372088832 := by omega
  simp only [impl_ThenPerm.j0, Bool.false_eq_true, if_false, I_len', h1, h2, if_true, Int.toNat_natCast]
  have H : ∀ (d i : Nat) (c : List Nat), i + d = p.length → c.length = p.length → (∀ j, j < i → g c j = g q (g p j)) → Ev (fun k => impl_ThenPerm.l0 k (I q) (I c) (I p) (p.length : Int) (i : Int)) (I (thn p q)) := by
    intro d
    induction d with
    | zero =>
      intro i c h hc hx
      refine ev_succ ?_
      have h1 : ¬ ((i : Int) < (p.length : Int)) := by omega
      have e : thn p q = c := by
        refine (eq_tab hc (fun j hj => hx j (by omega))).symm
      simp only [impl_ThenPerm.l0, h1, if_false]
      rw [e]
      exact Ev.now _
    | succ d ih =>
      intro i c h hc hx
      refine ev_succ ?_
      have hi : i < p.length := by omega
      have gp := g_lt hp hi
      have c1 : (i : Int) < (p.length : Int) := by omega
      have c2 : (0 : Int) ≤ (i : Int) := by omega
      have c3 : (0 : Int) ≤ ((g p i : Nat) : Int) := by omega
      have c4 : ((g p i : Nat) : Int) < (q.length : Int) := by omega
      have c5 : (i : Int) < (c.length : Int) := by omega
      have h3 := w64s i (by omega)
      simp only [impl_ThenPerm.l0, c1, c2, c3, c4, c5, h3, rdI, I_len', I_set, if_true, Int.toNat_natCast]
      refine ih (i + 1) _ (by omega) (by rw [List.length_set]; exact hc) (fun j hj => ?_)
      rw [g_set (by omega)]
      by_cases e : i = j
      · subst e
        simp
      · rw [if_neg e]
        exact hx j (by omega)
  have := H p.length 0 (List.replicate p.length 0) (by omega) (by simp) (fun j hj => by omega)
  rw [I_rep] at this
  exact this
end Go.Proofs.Ytoijcallajegfaa.M
end
section
/- Slopes and paths: the program and the reference answer alike. No conditions. -/
namespace Go.Proofs.Ytoijcallajegfaa.M
set_option linter.unusedVariables false
set_option linter.unusedSimpArgs false
open Go.RowKit Go.Proofs.YtoijcallajegfaaW.PrintWords Go.Proofs.YtoijcallajegfaaW.PrintLast Go.Proofs.YtoijcallajegfaaW.PrintMore Go.Proofs.Ytoijcallajegfaa.A
theorem tab_snoc (i : Nat) (f : Nat → Nat) : tab i f ++ [f i] = tab (i + 1) f := by unfold tab; rw [List.range_succ]; simp
theorem spec_then {p q : List Nat} (hp : ∀ i, i < p.length → g p i < q.length) (h : p.length ≤ 1000) : Ev (fun k => spec_l02Then.f k (I p) (I q)) (I (thn p q)) := by
  unfold spec_l02Then.f
  have H : ∀ d i : Nat, i + d = p.length → Ev (fun k => spec_l02Then.l0 k (I q) (I (tab i (fun i => g q (g p i)))) (I p) (p.length : Int) (i : Int)) (I (thn p q)) := by
    intro d
    induction d with
    | zero =>
      intro i h
      obtain rfl : i = p.length := by omega
      refine ev_succ ?_
      have h1 : ¬ ((p.length : Int) < (p.length : Int)) := by omega
      simp only [spec_l02Then.l0, h1, if_false]
      exact Ev.now _
    | succ d ih =>
      intro i h
      have hi : i < p.length := by omega
      have hg := hp i hi
      refine ev_succ ?_
      have h1 : (i : Int) < (p.length : Int) := by omega
      have h2 := w64s i (by omega)
      have h3 : (I (tab i (fun i => g q (g p i)))).length < 17592186044416 := by rw [I_len, tab_len]; omega
      have h4 : (0 : Int) ≤ (i : Int) := by omega
      have h5 : (0 : Int) ≤ ((g p i : Nat) : Int) := by omega
      have h6 : ((g p i : Nat) : Int) < (q.length : Int) := by omega
      have e := tab_snoc i (fun i => g q (g p i))
      simp only [spec_l02Then.l0, h1, h2, h3, h4, h5, h6, rdI, I_len', if_true, I_snoc, e]
      exact ih (i + 1) (by omega)
  have := H p.length 0 (by omega)
  simp only [I_len']
  exact this
end Go.Proofs.Ytoijcallajegfaa.M
end
section
/- Words of letters: the program and the reference act alike. No conditions. -/
namespace Go.Proofs.Ytoijcallajegfaa.M
set_option linter.unusedVariables false
set_option linter.unusedSimpArgs false
open Go.RowKit Go.Proofs.YtoijcallajegfaaW.PrintWords Go.Proofs.YtoijcallajegfaaW.PrintLast Go.Proofs.YtoijcallajegfaaW.PrintMore Go.Proofs.Ytoijcallajegfaa.A
def lt (c : Int) (s : List Nat × List Nat) : List Nat × List Nat := if c = 84 then (s.1, thn (inv s.1) s.2) else if c = 116 then (s.1, thn s.1 s.2) else if c = 83 then (inv s.2, s.1) else (s.2, inv s.1)
theorem sf_lt {s : List Nat × List Nat} (hs : Sf s.1 s.2) (c : Int) : Sf (lt c s).1 (lt c s).2 ∧ (lt c s).1.length = s.1.length := by
  unfold lt
  split
  · exact ⟨sf_T hs, rfl⟩
  · split
    · exact ⟨sf_t hs, rfl⟩
    · split
      · exact ⟨sf_S hs, by show (inv s.2).length = _; rw [inv_len, hs.eq]⟩
      · exact ⟨sf_s hs, hs.eq⟩
def rn (w : ByteArray) (s : List Nat × List Nat) : Nat → List Nat × List Nat
  | 0 => s
  | j + 1 => lt (bt w (j : Int)) (rn w s j)
theorem sf_rn {s : List Nat × List Nat} (hs : Sf s.1 s.2) (w : ByteArray) (j : Nat) : Sf (rn w s j).1 (rn w s j).2 ∧ (rn w s j).1.length = s.1.length := by
  induction j with
  | zero => exact ⟨hs, rfl⟩
  | succ j ih =>
    have := sf_lt ih.1 (bt w (j : Int))
    exact ⟨this.1, this.2.trans ih.2⟩
theorem thn_small {r u : List Nat} (hs : Sf r u) : (∀ i, i < (inv r).length → g (inv r) i < u.length) ∧ (∀ i, i < r.length → g r i < u.length) := by
  constructor
  · intro i hi
    have := g_lt (isP_inv hs.pr) hi
    rw [inv_len] at this
    rw [hs.eq]
    exact this
  · intro i hi
    rw [hs.eq]
    exact g_lt hs.pr hi
theorem spec_letter {s : List Nat × List Nat} (hs : Sf s.1 s.2) (c : Int) : Ev (fun k => spec_l05Letter.f k (I s.1) (I s.2) c) (I (lt c s).1, I (lt c s).2) := by
  have hle := hs.le
  have heq := hs.eq
  have c1 : ([] : List Int).length + (I s.1).length < 17592186044416 := by rw [I_len]; simp; omega
  have c2 : ([] : List Int).length + (I s.2).length < 17592186044416 := by rw [I_len]; simp; omega
  obtain ⟨t1, t2⟩ := thn_small hs
  unfold spec_l05Letter.f lt
  by_cases h1 : c = 84
  · simp only [h1, if_true]
    refine Ev.bind (a := (I s.1, I (thn (inv s.1) s.2))) ?_ (Ev.now _)
    unfold spec_l05Shear.f
    simp only [Option.bind_some, c1, if_true, List.nil_append]
    exact Ev.bind (spec_inv hs.pr hs.le) (Ev.bind (spec_then t1 (by rw [inv_len]; omega)) (Ev.now _))
  · by_cases h2 : c = 116
    · have n1 : ¬ ((116 : Int) = 84) := by omega
      simp only [h2, n1, if_true, if_false]
      refine Ev.bind (a := (I s.1, I (thn s.1 s.2))) ?_ (Ev.now _)
      unfold spec_l05Unshear.f
      simp only [Option.bind_some, c1, if_true, List.nil_append]
      exact Ev.bind (spec_then t2 (by omega)) (Ev.now _)
    · by_cases h3 : c = 83
      · have n1 : ¬ ((83 : Int) = 84) := by omega
        have n2 : ¬ ((83 : Int) = 116) := by omega
        simp only [h3, n1, n2, if_true, if_false]
        refine Ev.bind (a := (I (inv s.2), I s.1)) ?_ (Ev.now _)
        unfold spec_l05Turn.f
        refine Ev.bind (spec_inv hs.pu (by omega)) ?_
        simp only [Option.bind_some, c1, if_true, List.nil_append]
        exact Ev.now _
      · simp only [h1, h2, h3, if_false]
        refine Ev.bind (a := (I s.2, I (inv s.1))) ?_ (Ev.now _)
        unfold spec_l05Unturn.f
        simp only [Option.bind_some, c2, if_true, List.nil_append]
        exact Ev.bind (spec_inv hs.pr hs.le) (Ev.now _)
theorem spec_run {s : List Nat × List Nat} (hs : Sf s.1 s.2) (w : ByteArray) (hw : w.size ≤ 1000) : Ev (fun k => spec_l05Run.f k (I s.1) (I s.2) w) (I (rn w s w.size).1, I (rn w s w.size).2) := by
  have hle := hs.le
  have heq := hs.eq
  have c1 : ([] : List Int).length + (I s.1).length < 17592186044416 := by rw [I_len]; simp; omega
  have c2 : ([] : List Int).length + (I s.2).length < 17592186044416 := by rw [I_len]; simp; omega
  unfold spec_l05Run.f
  simp only [Option.bind_some, c1, c2, if_true, List.nil_append]
  have H : ∀ d j : Nat, j + d = w.size → Ev (fun k => spec_l05Run.l0 k w (j : Int) (I (rn w s j).1) (I (rn w s j).2)) (I (rn w s w.size).1, I (rn w s w.size).2) := by
    intro d
    induction d with
    | zero =>
      intro j hj
      obtain rfl : j = w.size := by omega
      refine ev_succ ?_
      have c1 : ¬ ((w.size : Int) < (w.size : Int)) := by omega
      simp only [spec_l05Run.l0, c1, if_false]
      exact Ev.now _
    | succ d ih =>
      intro j hj
      refine ev_succ ?_
      have c1 : (j : Int) < (w.size : Int) := by omega
      have c2 : (0 : Int) ≤ (j : Int) := by omega
      have c3 := w64s j (by omega)
      simp only [spec_l05Run.l0, c1, c2, c3, if_true]
      exact Ev.bind (spec_letter (sf_rn hs w j).1 _) (ih (j + 1) (by omega))
  exact H w.size 0 (Nat.zero_add _)
def letB (c : Int) : Bool := decide (c = 84 ∨ c = 116 ∨ c = 83 ∨ c = 115)
theorem idx_tab : ∀ n : Fin 256, decide (Lib.indexByte [84, 116, 83, 115] n.val.toUInt8 < 0) = !letB (n.val : Int) := by decide +kernel
theorem idx_ev {c : Int} (h0 : 0 ≤ c) (h1 : c ≤ 255) : ∃ i, strings_IndexByte.f (⟨#[84, 116, 83, 115]⟩ : ByteArray) c = some i ∧ decide (i < 0) = !letB c := by
  obtain ⟨n, rfl⟩ : ∃ n : Nat, c = n := ⟨c.toNat, by omega⟩
  refine ⟨_, rfl, ?_⟩
  exact idx_tab ⟨n, by omega⟩
def wordB (w : ByteArray) : Bool := decide ((∀ j, j < w.size → letB (bt w (j : Int)) = true) ∧ w.size ≤ 40)
theorem impl_wordOk (w : ByteArray) (hw : w.size ≤ 9000000000000000000) : Ev (fun k => impl_WordOk.f k w) (wordB w) := by
  unfold impl_WordOk.f
  have H : ∀ d j : Nat, j + d = w.size → (∀ i, i < j → letB (bt w (i : Int)) = true) → Ev (fun k => impl_WordOk.l0 k w (j : Int)) (wordB w) := by
    intro d
    induction d with
    | zero =>
      intro j hj hl
      obtain rfl : j = w.size := by omega
      refine ev_succ ?_
      have c1 : ¬ ((w.size : Int) < (w.size : Int)) := by omega
      have e : decide ((w.size : Int) ≤ 40) = wordB w := by
        unfold wordB
        rw [decide_eq_decide]
        constructor
        · intro h
          exact ⟨hl, by omega⟩
        · intro h
          have := h.2
          omega
      simp only [impl_WordOk.l0, c1, if_false, e]
      exact Ev.now _
    | succ d ih =>
      intro j hj hl
      obtain ⟨b0, b1⟩ := bt_range w (j : Int)
      obtain ⟨i, e, hi⟩ := idx_ev b0 b1
      refine ev_succ ?_
      have c1 : (j : Int) < (w.size : Int) := by omega
      have c2 : (0 : Int) ≤ (j : Int) := by omega
      have c3 := w64s j (by omega)
      simp only [impl_WordOk.l0, c1, c2, c3, e, if_true, Option.bind_some]
      by_cases hb : letB (bt w (j : Int)) = true
      · have c4 : ¬ i < 0 := by
          rw [hb] at hi
          exact of_decide_eq_false hi
        simp only [c4, if_false]
        exact ih (j + 1) (by omega) (fun q hq => by
          by_cases e : q = j
          · rw [e]; exact hb
          · exact hl q (by omega))
      · have hb' := Bool.eq_false_iff.mpr hb
        have c4 : i < 0 := by
          rw [hb'] at hi
          exact of_decide_eq_true hi
        have e2 : wordB w = false := by
          unfold wordB
          rw [decide_eq_false_iff_not]
          intro h
          exact hb (h.1 j (by omega))
        simp only [c4, if_true, e2]
        exact Ev.now _
  exact H w.size 0 (Nat.zero_add _) (fun i hi => by omega)
theorem copy_ev (l : List Int) (h : l.length ≤ 1000000) : impl_copyInts.f l = some l := by
  unfold impl_copyInts.f
  have c1 : ([] : List Int).length + l.length < 17592186044416 := by simp; omega
  simp only [Option.bind_some, c1, if_true, List.nil_append]
theorem impl_letter {s : List Nat × List Nat} (hs : Sf s.1 s.2) (c : Int) (hc : letB c = true) : Ev (fun k => impl_letterSurface.f k (I s.1) (I s.2) c) (I (lt c s).1, I (lt c s).2) := by
  have hle := hs.le
  have heq := hs.eq
  have h0 := surfB_I.mpr hs
  have k1 := copy_ev (I s.1) (by rw [I_len]; omega)
  have k2 := copy_ev (I s.2) (by rw [I_len]; omega)
  have hc := of_decide_eq_true hc
  unfold impl_letterSurface.f lt
  by_cases h1 : c = 84
  · simp only [h1, if_true]
    refine Ev.bind (a := (I s.1, I (thn (inv s.1) s.2), true)) ?_ (Ev.now _)
    unfold impl_ShearSurface.f
    refine Ev.bind (impl_surf _ _) ?_
    simp only [h0, k1, if_true, Option.bind_some]
    exact Ev.bind (impl_inv hs.pr hs.le) (Ev.bind (impl_then (isP_inv hs.pr) hs.pu (by rw [inv_len, hs.eq]) (by rw [inv_len]; exact hs.le)) (Ev.now _))
  · by_cases h2 : c = 116
    · have n1 : ¬ ((116 : Int) = 84) := by omega
      simp only [h2, n1, if_true, if_false]
      refine Ev.bind (a := (I s.1, I (thn s.1 s.2), true)) ?_ (Ev.now _)
      unfold impl_UnshearSurface.f
      refine Ev.bind (impl_surf _ _) ?_
      simp only [h0, k1, if_true, Option.bind_some]
      exact Ev.bind (impl_then hs.pr hs.pu hs.eq.symm hs.le) (Ev.now _)
    · by_cases h3 : c = 83
      · have n1 : ¬ ((83 : Int) = 84) := by omega
        have n2 : ¬ ((83 : Int) = 116) := by omega
        simp only [h3, n1, n2, if_true, if_false]
        refine Ev.bind (a := (I (inv s.2), I s.1, true)) ?_ (Ev.now _)
        unfold impl_TurnSurface.f
        refine Ev.bind (impl_surf _ _) ?_
        simp only [h0, if_true]
        refine Ev.bind (impl_inv hs.pu (by omega)) ?_
        simp only [k1, Option.bind_some]
        exact Ev.now _
      · have h4 : c = 115 := by omega
        have n1 : ¬ ((115 : Int) = 84) := by omega
        have n2 : ¬ ((115 : Int) = 116) := by omega
        have n3 : ¬ ((115 : Int) = 83) := by omega
        simp only [h4, n1, n2, n3, if_true, if_false]
        refine Ev.bind (a := (I s.2, I (inv s.1), true)) ?_ (Ev.now _)
        unfold impl_UnturnSurface.f
        refine Ev.bind (impl_surf _ _) ?_
        simp only [h0, k2, if_true, Option.bind_some]
        exact Ev.bind (impl_inv hs.pr hs.le) (Ev.now _)
def runP (r u : List Int) (w : ByteArray) : List Int × List Int × Bool := if surfB r u = true ∧ wordB w = true then (I (rn w (N r, N u) w.size).1, I (rn w (N r, N u) w.size).2, true) else ([], [], false)
theorem runP_yes {s : List Nat × List Nat} (hs : Sf s.1 s.2) {w : ByteArray} (hw : wordB w = true) : runP (I s.1) (I s.2) w = (I (rn w s w.size).1, I (rn w s w.size).2, true) := by
  unfold runP
  rw [if_pos ⟨surfB_I.mpr hs, hw⟩, N_I, N_I]
theorem impl_run (r u : List Int) (w : ByteArray) (hw : w.size ≤ 9000000000000000000) : Ev (fun k => impl_RunWord.f k r u w) (runP r u w) := by
  unfold impl_RunWord.f
  refine Ev.bind (impl_surf _ _) ?_
  by_cases h : surfB r u = true
  · simp only [h, if_true]
    refine Ev.bind (impl_wordOk w hw) ?_
    by_cases h2 : wordB w = true
    · obtain ⟨r, u, rfl, rfl, hs⟩ := surf_nat h
      rw [runP_yes (s := (r, u)) hs h2, h2]
      have hd := of_decide_eq_true h2
      have hle := hs.le
      have heq := hs.eq
      have k1 := copy_ev (I r) (by rw [I_len]; omega)
      have k2 := copy_ev (I u) (by rw [I_len]; omega)
      refine ev_succ ?_
      simp only [impl_RunWord.j0, impl_copySurface.f, k1, k2, Option.bind_some, Bool.not_true, Bool.false_eq_true, if_false]
      have H : ∀ d j : Nat, j + d = w.size → Ev (fun k => impl_RunWord.l0 k w (j : Int) (I (rn w (r, u) j).1) (I (rn w (r, u) j).2)) (I (rn w (r, u) w.size).1, I (rn w (r, u) w.size).2, true) := by
        intro d
        induction d with
        | zero =>
          intro j hj
          obtain rfl : j = w.size := by omega
          refine ev_succ ?_
          have c1 : ¬ ((w.size : Int) < (w.size : Int)) := by omega
          simp only [impl_RunWord.l0, c1, if_false]
          exact Ev.now _
        | succ d ih =>
          intro j hj
          refine ev_succ ?_
          have c1 : (j : Int) < (w.size : Int) := by omega
          have c2 : (0 : Int) ≤ (j : Int) := by omega
          have c3 := w64s j (by omega)
          simp only [impl_RunWord.l0, c1, c2, c3, if_true]
          exact Ev.bind (impl_letter (sf_rn (s := (r, u)) hs w j).1 _ (hd.1 j (by omega))) (ih (j + 1) (by omega))
      exact H w.size 0 (Nat.zero_add _)
    · have h2' := Bool.eq_false_iff.mpr h2
      have e : runP r u w = ([], [], false) := by
        unfold runP
        rw [if_neg (fun h => h2 h.2)]
      rw [e, h2']
      refine ev_succ ?_
      simp only [impl_RunWord.j0, Bool.not_false, if_true]
      exact Ev.now _
  · have e : runP r u w = ([], [], false) := by
      unfold runP
      rw [if_neg (fun k => h k.1)]
    have h' := Bool.eq_false_iff.mpr h
    simp only [h', Bool.false_eq_true, if_false]
    rw [e]
    refine ev_succ ?_
    simp only [impl_RunWord.j0, if_true]
    exact Ev.now _
end Go.Proofs.Ytoijcallajegfaa.M
end
section
/- Surfaces that are alike; surfaces that a word keeps. No conditions. -/
namespace Go.Proofs.Ytoijcallajegfaa.M
set_option linter.unusedVariables false
set_option linter.unusedSimpArgs false
open Go.RowKit Go.Proofs.YtoijcallajegfaaW.PrintWords Go.Proofs.YtoijcallajegfaaW.PrintLast Go.Proofs.YtoijcallajegfaaW.PrintMore Go.Proofs.Ytoijcallajegfaa.A
theorem equal_ev (a b : List Nat) (h : a.length ≤ 1000000000) : Ev (fun k => impl_SameList.f k (I a) (I b)) (decide (a = b)) := by
  unfold impl_SameList.f slices_Equal_int_int.f
  refine Ev.bind (a := decide (a = b)) ?_ (Ev.now _)
  by_cases hl : (a.length : Int) = (b.length : Int)
  · have hl' : a.length = b.length := by omega
    simp only [I_len', hl, if_true]
    have H : ∀ d i : Nat, i + d = a.length → Ev (fun k => slices_Equal_int_int.l0 k (I a) (I b) (b.length : Int) (i : Int)) (decide (a.drop i = b.drop i)) := by
      intro d
      induction d with
      | zero =>
        intro i hi
        refine ev_succ ?_
        have c1 : ¬ ((i : Int) < (b.length : Int)) := by omega
        have e : decide (a.drop i = b.drop i) = true := by rw [List.drop_of_length_le (by omega), List.drop_of_length_le (by omega)]; simp
        simp only [slices_Equal_int_int.l0, c1, if_false, e]
        exact Ev.now _
      | succ d ih =>
        intro i hi
        have hia : i < a.length := by omega
        have hib : i < b.length := by omega
        rw [List.drop_eq_getElem_cons hia, ← g_get hia, List.drop_eq_getElem_cons hib, ← g_get hib]
        have c1 : (i : Int) < (b.length : Int) := by omega
        have c2 : (0 : Int) ≤ (i : Int) := by omega
        have c4 : (i : Int) < (a.length : Int) := by omega
        have c3 := w64s i (by omega)
        refine ev_succ ?_
        by_cases he : g a i = g b i
        · have z : ((g a i : Nat) : Int) = ((g b i : Nat) : Int) := by omega
          have e : decide (g a i :: a.drop (i + 1) = g b i :: b.drop (i + 1)) = decide (a.drop (i + 1) = b.drop (i + 1)) := by simp [he]
          rw [e]
          simp only [slices_Equal_int_int.l0, c1, c2, c3, c4, I_len', rdI, z, if_true]
          exact ih (i + 1) (by omega)
        · have z : ¬ (((g a i : Nat) : Int) = ((g b i : Nat) : Int)) := by omega
          have e : decide (g a i :: a.drop (i + 1) = g b i :: b.drop (i + 1)) = false := by simp [he]
          rw [e]
          simp only [slices_Equal_int_int.l0, c1, c2, c4, I_len', rdI, z, if_true, if_false]
          exact Ev.now _
    have key := H a.length 0 (Nat.zero_add _)
    rw [List.drop_zero, List.drop_zero] at key
    exact key
  · have e : decide (a = b) = false := by
      rw [decide_eq_false_iff_not]
      intro e
      rw [e] at hl
      exact hl rfl
    simp only [I_len', hl, if_false, e]
    exact Ev.now _
theorem impl_same (a b : List Nat × List Nat) (h1 : a.1.length ≤ 1000000) (h2 : a.2.length ≤ 1000000) : Ev (fun k => impl_SameSurface.f k (I a.1) (I a.2) (I b.1) (I b.2)) (decide (a = b)) := by
  unfold impl_SameSurface.f
  refine Ev.bind (equal_ev a.1 b.1 (by omega)) ?_
  by_cases h : a.1 = b.1
  · have e : decide (a = b) = decide (a.2 = b.2) := by
      rw [decide_eq_decide, Prod.ext_iff]
      simp [h]
    rw [e]
    simp only [h, decide_true, if_true]
    exact Ev.bind (equal_ev a.2 b.2 (by omega)) (Ev.now _)
  · have e : decide (a = b) = false := by
      rw [decide_eq_false_iff_not]
      intro e
      exact h (by rw [e])
    rw [e]
    simp only [h, decide_false, Bool.false_eq_true, if_false]
    exact Ev.now _
theorem spec_same (a b : List Nat × List Nat) (h1 : a.1.length ≤ 1000000) (h2 : a.2.length ≤ 1000000) : Ev (fun k => spec_SameSurface.f k (I a.1) (I a.2) (I b.1) (I b.2)) (decide (a = b)) := by
  unfold spec_SameSurface.f
  refine Ev.bind (sameList_nat a.1 b.1 (by omega)) ?_
  by_cases h : a.1 = b.1
  · have e : decide (a = b) = decide (a.2 = b.2) := by
      rw [decide_eq_decide, Prod.ext_iff]
      simp [h]
    rw [e]
    simp only [h, decide_true, if_true]
    exact Ev.bind (sameList_nat a.2 b.2 (by omega)) (Ev.now _)
  · have e : decide (a = b) = false := by
      rw [decide_eq_false_iff_not]
      intro e
      exact h (by rw [e])
    rw [e]
    simp only [h, decide_false, Bool.false_eq_true, if_false]
    exact Ev.now _
theorem iso_both {s t : List Nat × List Nat} (hs : Sf s.1 s.2) (ht : Sf t.1 t.2) : Ev (fun k => spec_AreIsomorphic.f k (I s.1) (I s.2) (I t.1) (I t.2)) (decide (canS s.1 s.2 = canS t.1 t.2)) ∧ Ev (fun k => impl_AreIsomorphic.f k (I s.1) (I s.2) (I t.1) (I t.2)) (decide (canS s.1 s.2 = canS t.1 t.2)) := by
  have hs0 := surfB_I.mpr hs
  have ht0 := surfB_I.mpr ht
  have h1 := canK_len (r := s.1) (u := s.2) (s.1.length - 1)
  have l1 := hs.le
  have l2 := hs.eq
  unfold spec_AreIsomorphic.f impl_AreIsomorphic.f
  constructor
  · refine Ev.bind (spec_surf _ _) ?_
    simp only [hs0, if_true]
    refine Ev.bind (spec_surf _ _) ?_
    simp only [ht0, if_true]
    exact Ev.bind (spec_canon hs) (Ev.bind (spec_canon ht) (Ev.bind (spec_same (canS s.1 s.2) (canS t.1 t.2) (by unfold canS; rw [h1.1]; omega) (by unfold canS; rw [h1.2]; omega)) (Ev.now _)))
  · refine Ev.bind (impl_canon hs) (Ev.bind (impl_canon ht) ?_)
    simp only [if_true]
    exact Ev.bind (impl_same (canS s.1 s.2) (canS t.1 t.2) (by unfold canS; rw [h1.1]; omega) (by unfold canS; rw [h1.2]; omega)) (Ev.now _)
theorem spec_wordOk (w : ByteArray) : Ev (fun k => spec_WordOk.f k w) (wordB w) := by
  unfold spec_WordOk.f
  by_cases h40 : (w.size : Int) > 40
  · have e : wordB w = false := by
      unfold wordB
      rw [decide_eq_false_iff_not]
      intro h
      have := h.2
      omega
    simp only [h40, if_true, e]
    exact Ev.now _
  · simp only [h40, if_false]
    have H : ∀ d j : Nat, j + d = w.size → (∀ i, i < j → letB (bt w (i : Int)) = true) → Ev (fun k => spec_WordOk.l0 k w (j : Int)) (wordB w) := by
      intro d
      induction d with
      | zero =>
        intro j hj hl
        obtain rfl : j = w.size := by omega
        refine ev_succ ?_
        have c1 : ¬ ((w.size : Int) < (w.size : Int)) := by omega
        have e : wordB w = true := by
          unfold wordB
          rw [decide_eq_true_iff]
          exact ⟨hl, by omega⟩
        simp only [spec_WordOk.l0, c1, if_false, e]
        exact Ev.now _
      | succ d ih =>
        intro j hj hl
        refine ev_succ ?_
        have c1 : (j : Int) < (w.size : Int) := by omega
        have c2 : (0 : Int) ≤ (j : Int) := by omega
        have key := fun (hb : letB (bt w (j : Int)) = true) => ih (j + 1) (by omega) (fun q hq => by
          by_cases e : q = j
          · rw [e]; exact hb
          · exact hl q (by omega))
        have c3 := w64s j (by omega)
        simp only [spec_WordOk.l0, c1, c2, c3, if_true]
        by_cases h1 : bt w (j : Int) = 84
        · simp only [h1, if_true]
          exact key (by unfold letB; exact decide_eq_true (Or.inl h1))
        · by_cases h2 : bt w (j : Int) = 116
          · have n1 : ¬ ((116 : Int) = 84) := by omega
            simp only [h2, n1, if_true, if_false]
            exact key (by unfold letB; exact decide_eq_true (Or.inr (Or.inl h2)))
          · by_cases h3 : bt w (j : Int) = 83
            · have n1 : ¬ ((83 : Int) = 84) := by omega
              have n2 : ¬ ((83 : Int) = 116) := by omega
              simp only [h3, n1, n2, if_true, if_false]
              exact key (by unfold letB; exact decide_eq_true (Or.inr (Or.inr (Or.inl h3))))
            · by_cases h4 : bt w (j : Int) = 115
              · have n1 : ¬ ((115 : Int) = 84) := by omega
                have n2 : ¬ ((115 : Int) = 116) := by omega
                have n3 : ¬ ((115 : Int) = 83) := by omega
                simp only [h4, n1, n2, n3, if_true, if_false]
                exact key (by unfold letB; exact decide_eq_true (Or.inr (Or.inr (Or.inr h4))))
              · have e : wordB w = false := by
                  unfold wordB
                  rw [decide_eq_false_iff_not]
                  intro h
                  have := of_decide_eq_true (h.1 j (by omega))
                  omega
                simp only [h1, h2, h3, h4, if_false, e]
                exact Ev.now _
    exact H w.size 0 (Nat.zero_add _) (fun i hi => by omega)
theorem spec_runW (r u : List Int) (w : ByteArray) : Ev (fun k => spec_RunWord.f k r u w) (runP r u w) := by
  unfold spec_RunWord.f
  refine Ev.bind (spec_surf _ _) ?_
  by_cases h : surfB r u = true
  · simp only [h, if_true]
    refine Ev.bind (spec_wordOk w) ?_
    by_cases h2 : wordB w = true
    · obtain ⟨r, u, rfl, rfl, hs⟩ := surf_nat h
      rw [runP_yes (s := (r, u)) hs h2]
      have hd := of_decide_eq_true h2
      simp only [h2, if_true]
      exact Ev.bind (spec_run (s := (r, u)) hs w (by omega)) (Ev.now _)
    · have e : runP r u w = ([], [], false) := by
        unfold runP
        rw [if_neg (fun h => h2 h.2)]
      rw [e]
      simp only [h2, Bool.false_eq_true, if_false]
      exact Ev.now _
  · have e : runP r u w = ([], [], false) := by
      unfold runP
      rw [if_neg (fun k => h k.1)]
    rw [e]
    simp only [h, Bool.false_eq_true, if_false]
    exact Ev.now _
def fixP (r u : List Int) (w : ByteArray) : Bool := decide (surfB r u = true ∧ wordB w = true ∧ canS (rn w (N r, N u) w.size).1 (rn w (N r, N u) w.size).2 = canS (N r) (N u))
theorem fixed_by (r u : List Int) (w : ByteArray) (hw : w.size ≤ 9000000000000000000) : Ev (fun k => spec_IsFixedBy.f k r u w) (fixP r u w) ∧ Ev (fun k => impl_IsFixedBy.f k r u w) (fixP r u w) := by
  have e1 := spec_runW r u w
  have e2 := impl_run r u w hw
  unfold spec_IsFixedBy.f impl_IsFixedBy.f
  by_cases h : surfB r u = true ∧ wordB w = true
  · obtain ⟨h1, h2⟩ := h
    obtain ⟨r, u, rfl, rfl, hs⟩ := surf_nat h1
    rw [runP_yes (s := (r, u)) hs h2] at e1 e2
    have hr := sf_rn (s := (r, u)) hs w w.size
    obtain ⟨i1, i2⟩ := iso_both hr.1 (t := (r, u)) hs
    have e : fixP (I r) (I u) w = decide (canS (rn w (r, u) w.size).1 (rn w (r, u) w.size).2 = canS r u) := by
      unfold fixP
      rw [N_I, N_I, decide_eq_decide]
      simp [h1, h2]
    rw [e]
    refine ⟨Ev.bind e1 ?_, Ev.bind e2 ?_⟩
    · simp only [if_true]
      exact Ev.bind i1 (Ev.now _)
    · simp only [if_true]
      exact Ev.bind i2 (Ev.now _)
  · have e : runP r u w = ([], [], false) := by
      unfold runP
      rw [if_neg h]
    have e3 : fixP r u w = false := by
      unfold fixP
      rw [decide_eq_false_iff_not]
      intro k
      exact h ⟨k.1, k.2.1⟩
    rw [e] at e1 e2
    rw [e3]
    refine ⟨Ev.bind e1 ?_, Ev.bind e2 ?_⟩
    · simp only [Bool.false_eq_true, if_false]
      exact Ev.now _
    · simp only [Bool.false_eq_true, if_false]
      exact Ev.now _
end Go.Proofs.Ytoijcallajegfaa.M
end
section
/- The law of words that keep a surface answers true. No conditions. -/
namespace Go.Proofs.Ytoijcallajegfaa.Pure
set_option linter.unusedVariables false
set_option linter.unusedSimpArgs false
open Go.RowKit Go.Proofs.YtoijcallajegfaaW.PrintWords Go.Proofs.YtoijcallajegfaaW.PrintLast Go.Proofs.YtoijcallajegfaaW.PrintMore Go.Proofs.Ytoijcallajegfaa.A Go.Proofs.Ytoijcallajegfaa.M
theorem FnExactIsFixedBy (r u : List Int) (w : ByteArray) (hr : r.length ≤ maxLen) (_ : ∀ x ∈ r, (Lit.int .i64 x).wf = true) (hu : u.length ≤ maxLen) (_ : ∀ x ∈ u, (Lit.int .i64 x).wf = true) (hw : w.size ≤ 140737488351232) : ∃ k, laws_FnExactIsFixedBy.F k r u w := by
  unfold maxLen at hr hu
  unfold laws_FnExactIsFixedBy.F
  by_cases h1 : (w.size : Int) > 1048576
  · exact ⟨0, .inl h1⟩
  · by_cases h2 : r.length + u.length ≤ 1048576
    · obtain ⟨⟨K1, e1⟩, ⟨K2, e2⟩⟩ := fixed_by r u w (by omega)
      obtain ⟨K3, e3⟩ := toSurf_ev r u (by omega) (by omega)
      obtain ⟨K4, e4⟩ := eqSurf_same r u (by omega) (by omega)
      exact ⟨K1 + K2 + K3 + K4, .inr ⟨h1, _, sz_small h2, .inr ⟨by omega, _, e3 _ (by omega), e4 _ (by omega), e1 _ (by omega), e2 _ (by omega)⟩⟩⟩
    · exact ⟨0, .inr ⟨h1, _, sz_big (by omega) (by omega) h2, .inl (by omega)⟩⟩
end Go.Proofs.Ytoijcallajegfaa.Pure
end
