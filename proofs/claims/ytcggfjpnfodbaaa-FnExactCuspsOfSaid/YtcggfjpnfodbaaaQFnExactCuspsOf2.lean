/- Lemmas for the row FnExactCuspsOf: the program's functions told as plain functions, and plain mathematics. No conditions. -/
import Derived.Ground.SlsfProg
import Derived.Shelf.SlSortCmp.NoneTotal
import Derived.Test.YtcggfjpnfodbaaaProg
import Derived.Test.YtcggfjpnfodbaaaQFnExactCuspsOf1
section
namespace Go.Proofs.Ytcggfjpnfodbaaa.A
open Go.RowKit Go.Proofs.YtcggfjpnfodbaaaW.PrintWords Go.Proofs.YtcggfjpnfodbaaaW.PrintLast Go.Proofs.YtcggfjpnfodbaaaW.PrintMore
attribute [local go_sem] max2_int min2_int max_two min_two max_three min_three max_four min_four
set_option linter.unusedVariables false
set_option linter.unusedSimpArgs false
def impl_CanonOf.f (k : Nat) (l0_0 : List Int) (l0_1 : List Int) : Option (List Int × List Int × Bool) := (impl_namedFrom.f k l0_0 l0_1).bind fun t319 => (if (t319.length : Int) = 0 then (some (([] : List Int), ([] : List Int), false)) else ((impl_Surface_76.f k t319).bind fun bt322 => (some (bt322.1, bt322.2, true))))
theorem impl_CanonOf.mono : ∀ a0 a1 k, LeO (impl_CanonOf.f k a0 a1) (impl_CanonOf.f (k + 1) a0 a1) := by
  intro a0 a1 k
  unfold impl_CanonOf.f
  repeat' first|exact impl_Surface_76.mono _ _|exact impl_namedFrom.mono _ _ _|exact lo_|refine LeO.ite ?_ ?_|refine LeO.bind ?_ (fun _ => ?_)
set_option maxHeartbeats 8000000 in
set_option maxRecDepth 100000 in
theorem impl_CanonOf.calls (k : Nat) (A0_0 : Option Addr) (c0_0 : Nat) (l0_0 : List Int) (A0_1 : Option Addr) (c0_1 : Nat) (l0_1 : List Int) (r1 : List Int) (r2 : List Int) (r3 : Bool) (w : World) (hr0_0 : Kd.C (Kd.int .i64) w A0_0 l0_0.length l0_0) (hc0_0 : l0_0.length ≤ c0_0) (hr0_1 : Kd.C (Kd.int .i64) w A0_1 l0_1.length l0_1) (hc0_1 : l0_1.length ≤ c0_1) (h : impl_CanonOf.f k l0_0 l0_1 = some (r1, r2, r3)) :
    Calls Try.prog 28 #[.agg #[.slice A0_0 l0_0.length c0_0, .slice A0_1 l0_1.length c0_1]] w fun e w' => ∃ v0_ v1_ : Value, e = .returned (.tuple #[.agg #[v0_, v1_], .bool r3]) ∧ Kd.R (Kd.int .i64) 3 w' w.heap.size (fun k_ => some k_ ≠ (v1_ : Value).ownBlock) v0_ r1 ∧ Kd.R (Kd.int .i64) 3 w' w.heap.size (fun k_ => some k_ ≠ (v0_ : Value).ownBlock) v1_ r2 ∧ Below w.heap.size w w' := by
  have hu25 := Try.underlying25
  have HR0_0 := Aside0.mk hr0_0
  have HC0_0 := Aside0.mk hc0_0
  clear hr0_0 hc0_0
  have HR0_1 := Aside0.mk hr0_1
  have HC0_1 := Aside0.mk hc0_1
  clear hr0_1 hc0_1
  have HB := Aside0.mk (Below.refl w.heap.size w)
  have H := h
  unfold impl_CanonOf.f at H
  clear h
  obtain ⟨t319, A2, H⟩ := bi_ H
  by_cases c3 : (t319.length : Int) = 0
  · rw [if_pos c3] at H
    have c3b0 : ((t319.length : Int) == 0) = true := beq_iff_eq.mpr c3
    have c3b1 : ((t319.length : Int) != 0) = false := bne_eq_false_iff_eq.mpr c3
    clear c3
    simp only [Option.some.injEq, Prod.mk.injEq] at H
    obtain ⟨rfl, rfl, rfl⟩ := H
    go_enter Try.func28, Try.ntmps28
    go_wp2_with (first | ((with_reducible refine gate_dst (N := 1) rfl ?_); refine bx_ 1 #[.slice A0_0 l0_0.length c0_0, .slice A0_1 l0_1.length c0_1] 25 ?_; intro gb317 hg w4 hbox hb; have BK317 := Aside0.mk hbox; have GW317 := gw_ w hg; have GE317 := GW317; replace HB := b1_ hb; clear hb hbox hg) | ((with_reducible refine gate_dst (N := 2) rfl ?_); refine bx_ 2 #[.slice none 0 0, .slice none 0 0] 25 ?_; intro gb318 hg w5 hbox hb; have BK318 := Aside0.mk hbox; have GW318 := gw_ w hg; have GE318 := GW318; replace HB := b1_ hb; have NB317_318 := gN_ BK317 hg; have NB318_317 := gP_ BK317 hg; replace BK317 := bb_ BK317 hb; clear hb hbox hg; have hnb6 := NB317_318.out; have hnc6 := NB318_317.out; obtain ⟨hcz7_0, hcz7_1, hfz7_0, hfz7_1⟩ := c2_ BK317) | ((with_reducible refine gate_callee (f := 75) rfl ?_); refine gL_ (some 6) Try.func75 #[.agg #[.slice A0_0 l0_0.length c0_0, .slice A0_1 l0_1.length c0_1]] rfl qa_ ?_; (with_reducible refine (impl_namedFrom.calls k _ _ l0_0 _ _ l0_1 t319 _ (cb_ HR0_0) HC0_0.out (cb_ HR0_1) HC0_1.out A2.out).mono ?_); rintro e w8 ⟨v320, rfl, ho0, hb⟩; refine ⟨_, rfl, ?_⟩; have HO321 := Aside0.mk (Kd.S_lower (Kd.S_newB (Kd.S_newB (Kd.S_newM (M := fun k_ => (w.heap.size ≤ k_)) ho0 (below_size hB_) (fun k_ h_ => h_)) (kk_ BK317)) (kk_ BK318)) (below_size hB_)); replace BK317 := bb_ BK317 hb; replace BK318 := bb_ BK318 hb; replace HB := b1_ hb; clear hb ho0; obtain ⟨Ao9, co9, eo9⟩ := Kd.S_slice HO321.out; subst eo9; obtain ⟨hcz10_0, hcz10_1, hfz10_0, hfz10_1⟩ := c2_ BK318))
    refine bodyPost_ret (results_ct rfl _ _ gb318 25 #[.slice none 0 0, .slice none 0 0] (0, 0) _ rfl qp_ Try.underlying25 rfl (by kernel_rfl)) rfl ?_
    exact ⟨_, _, qb_, (Kd.R_nil _ _ _ _ _), (Kd.R_nil _ _ _ _ _), hB_⟩
  · rw [if_neg c3] at H
    have c3b0 : ((t319.length : Int) == 0) = false := beq_eq_false_iff_ne.mpr c3
    have c3b1 : ((t319.length : Int) != 0) = true := bne_iff_ne.mpr c3
    have c3b2 : ¬ (t319 = []) := fun h_ => c3 (by rw [h_]; rfl)
    obtain ⟨⟨t322, t325⟩, A11, H⟩ := bi_ H
    try dsimp only at H
    simp only [Option.some.injEq, Prod.mk.injEq] at H
    obtain ⟨rfl, rfl, rfl⟩ := H
    go_enter Try.func28, Try.ntmps28
    go_wp2_with (first | ((with_reducible refine gate_dst (N := 1) rfl ?_); refine bx_ 1 #[.slice A0_0 l0_0.length c0_0, .slice A0_1 l0_1.length c0_1] 25 ?_; intro gb317 hg w12 hbox hb; have BK317 := Aside0.mk hbox; have GW317 := gw_ w hg; have GE317 := GW317; replace HB := b1_ hb; clear hb hbox hg) | ((with_reducible refine gate_dst (N := 2) rfl ?_); refine bx_ 2 #[.slice none 0 0, .slice none 0 0] 25 ?_; intro gb318 hg w13 hbox hb; have BK318 := Aside0.mk hbox; have GW318 := gw_ w hg; have GE318 := GW318; replace HB := b1_ hb; have NB317_318 := gN_ BK317 hg; have NB318_317 := gP_ BK317 hg; replace BK317 := bb_ BK317 hb; clear hb hbox hg; have hnb14 := NB317_318.out; have hnc14 := NB318_317.out; obtain ⟨hcz15_0, hcz15_1, hfz15_0, hfz15_1⟩ := c2_ BK317) | ((with_reducible refine gate_callee (f := 75) rfl ?_); refine gL_ (some 6) Try.func75 #[.agg #[.slice A0_0 l0_0.length c0_0, .slice A0_1 l0_1.length c0_1]] rfl qa_ ?_; (with_reducible refine (impl_namedFrom.calls k _ _ l0_0 _ _ l0_1 t319 _ (cb_ HR0_0) HC0_0.out (cb_ HR0_1) HC0_1.out A2.out).mono ?_); rintro e w16 ⟨v320, rfl, ho0, hb⟩; refine ⟨_, rfl, ?_⟩; have HO321 := Aside0.mk (Kd.S_lower (Kd.S_newB (Kd.S_newB (Kd.S_newM (M := fun k_ => (w.heap.size ≤ k_)) ho0 (below_size hB_) (fun k_ h_ => h_)) (kk_ BK317)) (kk_ BK318)) (below_size hB_)); replace BK317 := bb_ BK317 hb; replace BK318 := bb_ BK318 hb; replace HB := b1_ hb; clear hb ho0; obtain ⟨Ao17, co17, eo17⟩ := Kd.S_slice HO321.out; subst eo17) | ((with_reducible refine gate_callee (f := 76) rfl ?_); refine gL_ (some 12) Try.func76 #[.slice Ao17 t319.length co17, .func (.func 77) #[] #[]] rfl qa_ ?_; (with_reducible refine (impl_Surface_76.calls k (fun k_ => ((((w.heap.size ≤ k_) ∧ True) ∧ k_ ≠ gb317) ∧ k_ ≠ gb318)) _ _ t319 t322 t325 _ (Kd.S_V (HO321.out)) A11.out).mono ?_); rintro e w18 ⟨v323, v326, rfl, ho0, ho1, hb, hj_⟩; refine ⟨_, rfl, ?_⟩; have HOW_ := Aside0.mk (atJ_own (ss_ HO321) hj_ hb); clear hj_; replace HO321 := sb_ HO321 hb; have HO324 := Aside0.mk (Kd.V_lower (Kd.V_mono (ok' := fun k_ => (w.heap.size ≤ k_) ∧ k_ ≠ gb317 ∧ k_ ≠ gb318) ho0 (fun k_ hk_ => ⟨Or.elim hk_ (fun hs_ => hs_.1.1.1) (fun hn_ => (Nat.le_trans (below_size hB_) hn_)), Or.elim hk_ (fun hs_ => hs_.1.2) (fun hn_ => (Kd.freshB (kk_ BK317) k_ hn_)), Or.elim hk_ (fun hs_ => hs_.2) (fun hn_ => (Kd.freshB (kk_ BK318) k_ hn_))⟩)) (below_size hB_)); have HO327 := Aside0.mk (Kd.V_lower (Kd.V_mono (ok' := fun k_ => (w.heap.size ≤ k_) ∧ k_ ≠ gb317 ∧ k_ ≠ gb318) ho1 (fun k_ hk_ => ⟨Or.elim hk_ (fun hs_ => hs_.1.1.1) (fun hn_ => (Nat.le_trans (below_size hB_) hn_)), Or.elim hk_ (fun hs_ => hs_.1.2) (fun hn_ => (Kd.freshB (kk_ BK317) k_ hn_)), Or.elim hk_ (fun hs_ => hs_.2) (fun hn_ => (Kd.freshB (kk_ BK318) k_ hn_))⟩)) (below_size hB_)); replace BK317 := bb_ BK317 hb; replace BK318 := bb_ BK318 hb; replace HB := b1_ hb; clear hb ho0 ho1; obtain ⟨Ao19, co19, eo19⟩ := Kd.V_slice HO324.out; subst eo19; obtain ⟨hcz20_0, hcz20_1, hfz20_0, hfz20_1⟩ := c2_ BK318; obtain ⟨Ao21, co21, eo21⟩ := Kd.V_slice HO327.out; subst eo21))
    refine bodyPost_ret (results_ct rfl _ _ gb318 25 #[.slice Ao19 t322.length co19, .slice Ao21 t325.length co21] (0, 0) _ rfl qp_ Try.underlying25 rfl (by kernel_rfl)) rfl ?_
    exact ⟨_, _, qb_, (rw_ (Kd.R_mono (Kd.R_tight rfl (Kd.R_far (p := ⟨gb318, 1, none⟩) (Kd.R_far (p := ⟨gb318, 0, none⟩) (Kd.R_types HOW_.out.1 (BK318.out) (by decide)) (fun _ hk => hk.2) _) (fun _ hk => hk.2) _)) (fun k_ e1_ e2_ => HOW_.out.2.2 k_ e1_.symm e2_.symm))), (rw_ (Kd.R_mono (Kd.R_tight rfl (Kd.R_far (p := ⟨gb318, 1, none⟩) (Kd.R_far (p := ⟨gb318, 0, none⟩) (Kd.R_types HOW_.out.2.1 (BK318.out) (by decide)) (fun _ hk => hk.2) _) (fun _ hk => hk.2) _)) (fun k_ e1_ e2_ => HOW_.out.2.2 k_ e2_.symm e1_.symm))), hB_⟩
end Go.Proofs.Ytcggfjpnfodbaaa.A
end
section
namespace Go.Proofs.Ytcggfjpnfodbaaa.A
open Go.RowKit Go.Proofs.YtcggfjpnfodbaaaW.PrintWords Go.Proofs.YtcggfjpnfodbaaaW.PrintLast Go.Proofs.YtcggfjpnfodbaaaW.PrintMore
attribute [local go_sem] max2_int min2_int max_two min_two max_three min_three max_four min_four
set_option linter.unusedVariables false
set_option linter.unusedSimpArgs false
def impl_copyInts.f (l0 : List Int) : Option (List Int) := (some (([] : List Int) : List Int)).bind fun y328 => (if y328.length + l0.length < 17592186044416 then (some (y328 ++ l0)) else (none))
set_option maxHeartbeats 8000000 in
set_option maxRecDepth 100000 in
theorem impl_copyInts.calls (A0 : Option Addr) (c0 : Nat) (l0 : List Int) (r : List Int) (w : World) (hr0 : Kd.C (Kd.int .i64) w A0 l0.length l0) (hc0 : l0.length ≤ c0) (h : impl_copyInts.f l0 = some r) :
    Calls Try.prog 67 #[.slice A0 l0.length c0] w fun e w' => ∃ v0_ : Value, e = .returned (v0_) ∧ Kd.R (Kd.int .i64) 3 w' w.heap.size (fun _ => True) v0_ r ∧ Below w.heap.size w w' := by
  have HR0 := Aside0.mk hr0
  have HC0 := Aside0.mk hc0
  clear hr0 hc0
  have HB := Aside0.mk (Below.refl w.heap.size w)
  have H := h
  unfold impl_copyInts.f at H
  clear h
  obtain ⟨y328, hy328⟩ : ∃ y_ : List Int, y_ = (([] : List Int)) := ⟨_, rfl⟩
  replace H : (if y328.length + l0.length < 17592186044416 then (some (y328 ++ l0)) else (none)) = some r := by first | (rw [hy328]; exact H) | exact H
  have Ny328 := Aside0.mk hy328
  clear hy328
  have c2 := cp_ H
  replace H := ca_ H
  have LMc2 := Aside0.mk c2
  clear c2
  obtain ⟨y331, hy331⟩ : ∃ y_ : List Int, y_ = (y328 ++ l0) := ⟨_, rfl⟩
  replace H : (some y331) = some r := by first | (rw [hy331]; exact H) | exact H
  have Ny331 := Aside0.mk hy331
  clear hy331
  obtain rfl := Option.some.inj H
  go_enter Try.func67, Try.ntmps67
  go_wp2_with (first | ((with_reducible refine gate_dst (N := 3) rfl ?_); refine Kd.R_lit (Kd.int .i64) _ 3 ?hg (N := 3) ?hd (xs := ([] : List Int)) (inner := []) (ok := fun _ => True) (okp := fun _ => True) ?hr ?hp (fun _ hk => hk) trivial (Below.refl _ _) (Nat.le_refl _) (by simp) ?_; (case hd => rfl); (case hg => rfl); (case hr => first | (go_simp; done) | (go_simp; rfl)); (case hp => exact (Reps.none _ _)); intro v329 w3 ho4 hb hg_ hnew_; clear hg_ hnew_; (first | rw [← Ny328.out] at ho4 | (simp only [Int.reduceToNat] at ho4; rw [← Ny328.out] at ho4)); have HO330 := rl_ w ho4; replace HB := b1_ hb; clear hb ho4) | ((with_reducible refine gate_builtin (b := .append) (xs := #[.tmp 3, .tmp 4]) rfl ?_); at_builtin; refine Kd.R_append_rows (Kd.int .i64) (w0 := w) w.heap.size rfl (.tmp 3) (.tmp 4) 23 3 (.int .i64 0) 8 rfl Try.underlying23 info3 rfl (by decide) (by omega) v329 y328 l0 _ _ _ (fun _ => True) (fun _ => False) rfl rfl ?aO ?aR (fun _ _ h => h) (fun _ h => h.elim) ?aF ?aB ?aS ?aL ?_; (case aR => exact cb_ HR0); (case aB => exact hB_); (case aF => exact (fun _ _ => trivial)); (case aO => exact (rr_ HO330)); (case aS => exact (below_size hB_)); (case aL => have := LMc2.out; omega); intro v332 w5 ho hb hg hat; rw [← Ny331.out] at ho; replace HB := Aside0.mk hb; have HO333 := Aside0.mk ho; clear HO330; clear ho hb hg hat))
  go_ret
  exact ⟨_, qb_, (rr_ HO333), hB_⟩
end Go.Proofs.Ytcggfjpnfodbaaa.A
end
section
namespace Go.Proofs.Ytcggfjpnfodbaaa.A
open Go.RowKit Go.Proofs.YtcggfjpnfodbaaaW.PrintWords Go.Proofs.YtcggfjpnfodbaaaW.PrintLast Go.Proofs.YtcggfjpnfodbaaaW.PrintMore
attribute [local go_sem] max2_int min2_int max_two min_two max_three min_three max_four min_four
set_option linter.unusedVariables false
set_option linter.unusedSimpArgs false
mutual
def impl_ThenPerm.j0 : Nat → List Int → List Int → Bool → Option (List Int)
  | 0, _, _, _ => none
  | k + 1, x0, x1, x22 => if x22 = true then (some ([] : List Int)) else (if 0 ≤ (x0.length : Int) then (if ((x0.length : Int) : Int).toNat ≤ 35184372088832 then (impl_ThenPerm.l0 k x1 (List.replicate ((x0.length : Int) : Int).toNat 0) x0 (x0.length : Int) 0) else (none)) else (none))
def impl_ThenPerm.l0 : Nat → List Int → List Int → List Int → Int → Int → Option (List Int)
  | 0, _, _, _, _, _ => none
  | k + 1, x1, x5, x26, x27, x28 => if x28 < x27 then (if 0 ≤ x28 then (if x28 < (x26.length : Int) then (if 0 ≤ (rd x26 x28) then (if (rd x26 x28) < (x1.length : Int) then (if x28 < (x5.length : Int) then (impl_ThenPerm.l0 k x1 (x5.set (x28 : Int).toNat (rd x1 (rd x26 x28))) x26 x27 (wrap64 (x28 + 1))) else (none)) else (none)) else (none)) else (none)) else (none)) else (some x5)
end
def impl_ThenPerm.f (k : Nat) (l0 : List Int) (l1 : List Int) : Option (List Int) := (impl_PermOk.f k l0).bind fun t334 => (if t334 = true then ((impl_PermOk.f k l1).bind fun t335 => (if t335 = true then (impl_ThenPerm.j0 k l0 l1 ((l0.length : Int) != (l1.length : Int))) else (impl_ThenPerm.j0 k l0 l1 true))) else (impl_ThenPerm.j0 k l0 l1 true))
theorem impl_ThenPerm.mono_l : ∀ k, (∀ y0 y1 y2, LeO (impl_ThenPerm.j0 k y0 y1 y2) (impl_ThenPerm.j0 (k + 1) y0 y1 y2)) ∧ (∀ y0 y1 y2 y3 y4, LeO (impl_ThenPerm.l0 k y0 y1 y2 y3 y4) (impl_ThenPerm.l0 (k + 1) y0 y1 y2 y3 y4))
  | 0 => ⟨fun _ _ _ r h => by simp [impl_ThenPerm.j0] at h, fun _ _ _ _ _ r h => by simp [impl_ThenPerm.l0] at h⟩
  | k + 1 => by
    obtain ⟨ih0, ih1⟩ := impl_ThenPerm.mono_l k
    refine ⟨?_, ?_⟩
    · intro y0 y1 y2
      unfold impl_ThenPerm.j0
      repeat' first|exact ih0 _ _ _|exact ih1 _ _ _ _ _|exact impl_PermOk.mono _ _|exact lo_|refine LeO.ite ?_ ?_|refine LeO.bind ?_ (fun _ => ?_)
    · intro y0 y1 y2 y3 y4
      unfold impl_ThenPerm.l0
      repeat' first|exact ih0 _ _ _|exact ih1 _ _ _ _ _|exact impl_PermOk.mono _ _|exact lo_|refine LeO.ite ?_ ?_|refine LeO.bind ?_ (fun _ => ?_)
theorem impl_ThenPerm.mono : ∀ a0 a1 k, LeO (impl_ThenPerm.f k a0 a1) (impl_ThenPerm.f (k + 1) a0 a1) := by
  intro a0 a1 k
  obtain ⟨ih0, ih1⟩ := impl_ThenPerm.mono_l k
  unfold impl_ThenPerm.f
  repeat' first|exact ih0 _ _ _|exact ih1 _ _ _ _ _|exact impl_PermOk.mono _ _|exact lo_|refine LeO.ite ?_ ?_|refine LeO.bind ?_ (fun _ => ?_)
set_option maxHeartbeats 8000000 in
set_option maxRecDepth 100000 in
theorem impl_ThenPerm.calls (k : Nat) (A0 : Option Addr) (c0 : Nat) (l0 : List Int) (A1 : Option Addr) (c1 : Nat) (l1 : List Int) (r : List Int) (w : World) (hr0 : Kd.C (Kd.int .i64) w A0 l0.length l0) (hc0 : l0.length ≤ c0) (hr1 : Kd.C (Kd.int .i64) w A1 l1.length l1) (hc1 : l1.length ≤ c1) (h : impl_ThenPerm.f k l0 l1 = some r) :
    Calls Try.prog 68 #[.slice A0 l0.length c0, .slice A1 l1.length c1] w fun e w' => ∃ v0_ : Value, e = .returned (v0_) ∧ Kd.R (Kd.int .i64) 3 w' w.heap.size (fun _ => True) v0_ r ∧ Below w.heap.size w w' := by
  have HR0 := Aside0.mk hr0
  have HC0 := Aside0.mk hc0
  clear hr0 hc0
  have HR1 := Aside0.mk hr1
  have HC1 := Aside0.mk hc1
  clear hr1 hc1
  have HB := Aside0.mk (Below.refl w.heap.size w)
  have H := h
  unfold impl_ThenPerm.f at H
  clear h
  have HC3 := Aside0.mk H
  clear H
  go_enter Try.func68, Try.ntmps68
  go_upto_region 1 with (fail)
  go_cut [22] (fun v22 wc => ∃ (kq : Nat) (x22_2 : Bool), v22 = .bool x22_2 ∧ Aside0 (impl_ThenPerm.j0 kq l0 l1 x22_2 = some r) ∧ Aside0 (kq ≤ k) ∧ Aside0 (Below w.heap.size w wc))
  case first =>
    have H := HC3.out
    clear HC3
    obtain ⟨t334, A4, H⟩ := bi_ H
    by_cases c5 : t334 = true
    · subst c5
      rw [if_pos rfl] at H
      obtain ⟨t335, A6, H⟩ := bi_ H
      by_cases c7 : t335 = true
      · subst c7
        rw [if_pos rfl] at H
        have H' := Aside0.mk H
        clear H
        go_wp2_with (first | ((with_reducible refine gate_callee (f := 107) rfl ?_); refine gL_ (some 9) Try.func107 #[.slice A0 l0.length c0] rfl qa_ ?_; (with_reducible refine (impl_PermOk.calls k _ _ l0 true _ (cb_ HR0) HC0.out A4.out).mono ?_); rintro e w8 ⟨rfl, hb⟩; refine ⟨_, rfl, ?_⟩; replace HB := b1_ hb; clear hb) | (go_at_call 107; (with_reducible refine (impl_PermOk.calls k _ _ l1 true _ (cb_ HR1) HC1.out A6.out).mono ?_); rintro e w9 ⟨rfl, hb⟩; replace HB := b1_ hb; clear hb))
        go_meet
        case rel => exact ⟨_, (((l0.length : Int) != (l1.length : Int))), qc_, H', ⟨qd_⟩, ⟨hB_⟩⟩
      · replace c7 := Bool.eq_false_iff.mpr c7
        subst c7
        have H1 : (impl_ThenPerm.j0 k l0 l1 true) = some r := by rw [if_neg (show ¬ (false = true) by decide)] at H; exact H
        clear H
        have H := H1
        clear H1
        have H' := Aside0.mk H
        clear H
        go_wp2_with (first | ((with_reducible refine gate_callee (f := 107) rfl ?_); refine gL_ (some 9) Try.func107 #[.slice A0 l0.length c0] rfl qa_ ?_; (with_reducible refine (impl_PermOk.calls k _ _ l0 true _ (cb_ HR0) HC0.out A4.out).mono ?_); rintro e w10 ⟨rfl, hb⟩; refine ⟨_, rfl, ?_⟩; replace HB := b1_ hb; clear hb) | (go_at_call 107; (with_reducible refine (impl_PermOk.calls k _ _ l1 false _ (cb_ HR1) HC1.out A6.out).mono ?_); rintro e w11 ⟨rfl, hb⟩; replace HB := b1_ hb; clear hb))
        go_meet
        case rel => exact ⟨_, (true), qc_, H', ⟨qd_⟩, ⟨hB_⟩⟩
    · replace c5 := Bool.eq_false_iff.mpr c5
      subst c5
      have H1 : (impl_ThenPerm.j0 k l0 l1 true) = some r := by rw [if_neg (show ¬ (false = true) by decide)] at H; exact H
      clear H
      have H := H1
      clear H1
      have H' := Aside0.mk H
      clear H
      go_wp2_with (first | ((with_reducible refine gate_callee (f := 107) rfl ?_); refine gL_ (some 9) Try.func107 #[.slice A0 l0.length c0] rfl qa_ ?_; (with_reducible refine (impl_PermOk.calls k _ _ l0 false _ (cb_ HR0) HC0.out A4.out).mono ?_); rintro e w12 ⟨rfl, hb⟩; refine ⟨_, rfl, ?_⟩; replace HB := b1_ hb; clear hb))
      go_meet
      case rel => exact ⟨_, (true), qc_, H', ⟨qd_⟩, ⟨hB_⟩⟩
  case rest =>
    clear HC3
    obtain ⟨kq, x22_2, rfl, HA, HJ2, HB⟩ := hcut
    cases kq with
    | zero => exact absurd HA.out (by simp [impl_ThenPerm.j0])
    | succ kj2 =>
      have H := HA.out
      clear HA
      simp only [impl_ThenPerm.j0] at H
      by_cases c13 : x22_2 = true
      · subst c13
        rw [if_pos rfl] at H
        obtain rfl := Option.some.inj H
        go_wp2
        go_ret
        exact ⟨_, qb_, by first | exact Kd.R_nil _ _ _ _ _ | exact Kd.N_nil _ _ _ _ _ | exact Kd.V_nil _ _ _ _ _ | exact Kd.Q_nil _ _ _ _ _ | exact Kd.S_nil _ _ _ _ _, hB_⟩
      · replace c13 := Bool.eq_false_iff.mpr c13
        subst c13
        have H1 : (if 0 ≤ (l0.length : Int) then (if ((l0.length : Int) : Int).toNat ≤ 35184372088832 then (impl_ThenPerm.l0 kj2 l1 (List.replicate ((l0.length : Int) : Int).toNat 0) l0 (l0.length : Int) 0) else (none)) else (none)) = some r := by rw [if_neg (show ¬ (false = true) by decide)] at H; exact H
        clear H
        have H := H1
        clear H1
        have c14 := cp_ H
        replace H := ca_ H
        have c14b0 := eq_true c14
        have c14b1 := decide_eq_true c14
        clear c14
        have c15 := cp_ H
        replace H := ca_ H
        have c15b0 := eq_true c15
        have c15b1 := decide_eq_true c15
        clear c15
        obtain ⟨y336, hy336⟩ : ∃ y_ : List Int, y_ = (List.replicate ((l0.length : Int) : Int).toNat 0) := ⟨_, rfl⟩
        replace H : (impl_ThenPerm.l0 kj2 l1 y336 l0 (l0.length : Int) 0) = some r := by first | (rw [hy336]; exact H) | exact H
        have Ny336 := Aside0.mk hy336
        clear hy336
        have H' := Aside0.mk H
        clear H
        go_wp2_with (first | ((with_reducible refine gate_dst (N := 25) rfl ?_); (try (refine gate_guard (by rfl) ?_; dsimp only)); refine Kd.R_make (Kd.int .i64) _ 3 rfl (N := 25) rfl 23 _ _ rfl (l0.length : Int) rfl rfl Try.underlying23 (.int .i64 0) 8 info3 rfl (by decide) (by omega) 0 (ok := fun _ => True) (okp := fun _ => True) rfl (fun _ hk => hk) trivial (of_decide_eq_true qe_) (Nat.le_trans (Nat.mul_le_mul_right _ (of_decide_eq_true qe_ : (l0.length : Int).toNat ≤ 35184372088832)) (by omega)) (Below.refl _ _) (Nat.le_refl _) ?_; intro v337 w16 ho17 hb hg_ hnew_; clear hg_ hnew_; (first | rw [← Ny336.out] at ho17 | (simp only [Int.reduceToNat] at ho17; rw [← Ny336.out] at ho17)); have HO338 := rl_ w ho17; replace HB := b1_ hb; clear hb ho17))
        go_loopg [28] kj2 (fun kq v28 w' => ∃ (x5_2 : List Int) (x28_2 : Int), v28 = .int .i64 x28_2 ∧ Aside0 (impl_ThenPerm.l0 kq l1 x5_2 l0 (l0.length : Int) x28_2 = some r) ∧ Aside0 (kq ≤ kj2) ∧ Aside0 (Kd.R (Kd.int .i64) 3 w' w.heap.size (fun _ => True) v337 x5_2) ∧ Aside0 (Below w.heap.size w w'))
        case atStart => exact ⟨(y336), (0), qc_, H', ⟨Nat.le_refl _⟩, ⟨(rr_ HO338)⟩, ⟨hB_⟩⟩
        case round =>
          clear H'
          obtain ⟨x5_2, x28_2, rfl, HA, HK2, HO_5, HB⟩ := hrel
          cases gk with
          | zero => exact absurd HA.out (by simp [impl_ThenPerm.l0])
          | succ k2 =>
            have H := HA.out
            clear HA
            simp only [impl_ThenPerm.l0] at H
            by_cases c18 : x28_2 < (l0.length : Int)
            · rw [if_pos c18] at H
              have c18b0 := decide_eq_true c18
              clear c18
              have c19 := cp_ H
              replace H := ca_ H
              have c19b0 := decide_eq_true c19
              clear c19
              have c20 := cp_ H
              replace H := ca_ H
              have c20b0 := decide_eq_true c20
              clear c20
              have c21 := cp_ H
              replace H := ca_ H
              have c21b0 := decide_eq_true c21
              clear c21
              have c22 := cp_ H
              replace H := ca_ H
              have c22b0 := decide_eq_true c22
              clear c22
              have c23 := cp_ H
              replace H := ca_ H
              have c23b0 := decide_eq_true c23
              clear c23
              obtain ⟨y341, hy341⟩ : ∃ y_ : List Int, y_ = (x5_2.set (x28_2 : Int).toNat (rd l1 (rd l0 x28_2))) := ⟨_, rfl⟩
              replace H : (impl_ThenPerm.l0 k2 l1 y341 l0 (l0.length : Int) (wrap64 (x28_2 + 1))) = some r := by first | (rw [hy341]; exact H) | exact H
              have Ny341 := Aside0.mk hy341
              clear hy341
              have H' := Aside0.mk H
              clear H
              have p339 : 0 ≤ (x28_2 : Int) := of_decide_eq_true qe_
              have q339 : x28_2 < (l0.length : Int) := of_decide_eq_true qe_
              obtain ⟨ad339, e339, hx339_0⟩ := Kd.at_int HR0.out x28_2 p339 q339
              cases e339
              replace hx339_0 := (HB.out.cell (World.block_lt_of_cell? w _ hx339_0)).trans hx339_0
              replace p339 := eq_true p339
              replace q339 := eq_true q339
              have p340 : 0 ≤ ((rd l0 x28_2) : Int) := of_decide_eq_true qe_
              have q340 : (rd l0 x28_2) < (l1.length : Int) := of_decide_eq_true qe_
              obtain ⟨ad340, e340, hx340_0⟩ := Kd.at_int HR1.out (rd l0 x28_2) p340 q340
              cases e340
              replace hx340_0 := (HB.out.cell (World.block_lt_of_cell? w _ hx340_0)).trans hx340_0
              replace p340 := eq_true p340
              replace q340 := eq_true q340
              have p24 : 0 ≤ (x28_2 : Int) := of_decide_eq_true qe_
              have q24 : (x28_2 : Int) < ((x5_2.length : Int) : Int) := of_decide_eq_true qe_
              obtain ⟨go24, co24, eo24, gb24, gl24, cl24, HG24⟩ := Kd.R_form HO_5.out (by omega)
              (first | cases eo24 | (injection eo24 with ea_ en_ ec_; (first | subst ea_ | (injection ea_ with ea_; subst ea_)); subst ec_; clear en_))
              have GB24 := Aside0.mk gb24
              have GG24 := Aside0.mk HG24
              clear gb24 gl24 HG24
              obtain ⟨hx24_0, hf24_0⟩ := Kd.R_celln 0 HO_5.out (x28_2 : Int) p24 q24
              replace p24 := eq_true p24
              replace q24 := eq_true q24
              have HP25 := Kd.R_putg HO_5.out (x28_2 : Int) (rd l1 (rd l0 x28_2))
              go_wp2_with (first | ((with_reducible refine gate_store (t := 3) (p := 39) rfl ?_); refine store_event (t := 3) (p := 39) (v := ?vo_w26) (w1 := (wr.setCell ⟨go24, (x28_2 : Int).toNat, none⟩ (.int .i64 (rd l1 (rd l0 x28_2))))) ?hg ?ho ?hn ?hr ?_; (case ho => rfl); (case hg => rfl); (case hn => rfl); (case hr => first | (go_simp; done) | (go_simp; rfl)); intro w26 hw; have hg : wr.grownBy w26 (some go24) := (by rw [hw]; exact HP25.2); have hp_ : Kd.R (Kd.int .i64) 3 w26 w.heap.size (fun _ => True) (.slice (some ⟨go24, 0, none⟩) x5_2.length co24) y341 := (by rw [hw, Ny341.out]; exact HP25.1); clear HP25; replace HO_5 := Aside0.mk (hp_); replace HB := Aside0.mk ((by rw [hw]; exact below_set (HB.out) GB24.out : Below w.heap.size w w26)); clear hg hw hp_))
              go_roundg k2
              case measure => have := HJ2.out; have := HK2.out; omega
              case rel => exact ⟨(y341), (wrap64 (x28_2 + 1)), qc_, H', ⟨by have := HJ2.out; have := HK2.out; omega⟩, ⟨(rr_ HO_5)⟩, ⟨hB_⟩⟩
            · rw [if_neg c18] at H
              have c18b0 := decide_eq_false c18
              clear c18
              obtain rfl := Option.some.inj H
              go_wp2
              go_ret
              exact ⟨_, qb_, (rr_ HO_5), hB_⟩
end Go.Proofs.Ytcggfjpnfodbaaa.A
end
section
namespace Go.Proofs.Ytcggfjpnfodbaaa.A
open Go.RowKit Go.Proofs.YtcggfjpnfodbaaaW.PrintWords Go.Proofs.YtcggfjpnfodbaaaW.PrintLast Go.Proofs.YtcggfjpnfodbaaaW.PrintMore
attribute [local go_sem] max2_int min2_int max_two min_two max_three min_three max_four min_four
set_option linter.unusedVariables false
set_option linter.unusedSimpArgs false
def impl_InversePerm.l0 : Nat → List Int → List Int → Int → Int → Option (List Int)
  | 0, _, _, _, _ => none
  | k + 1, x3, x12, x13, x14 => if x14 < x13 then (if 0 ≤ x14 then (if x14 < (x12.length : Int) then (if 0 ≤ (rd x12 x14) then (if (rd x12 x14) < (x3.length : Int) then (impl_InversePerm.l0 k (x3.set ((rd x12 x14) : Int).toNat x14) x12 x13 (wrap64 (x14 + 1))) else (none)) else (none)) else (none)) else (none)) else (some x3)
def impl_InversePerm.f (k : Nat) (l0 : List Int) : Option (List Int) := (impl_PermOk.f k l0).bind fun t342 => (if t342 = true then (if 0 ≤ (l0.length : Int) then (if ((l0.length : Int) : Int).toNat ≤ 35184372088832 then (impl_InversePerm.l0 k (List.replicate ((l0.length : Int) : Int).toNat 0) l0 (l0.length : Int) 0) else (none)) else (none)) else (some ([] : List Int)))
theorem impl_InversePerm.mono_l : ∀ k, (∀ y0 y1 y2 y3, LeO (impl_InversePerm.l0 k y0 y1 y2 y3) (impl_InversePerm.l0 (k + 1) y0 y1 y2 y3))
  | 0 => fun _ _ _ _ r h => by simp [impl_InversePerm.l0] at h
  | k + 1 => by
    have ih0 := impl_InversePerm.mono_l k
    · intro y0 y1 y2 y3
      unfold impl_InversePerm.l0
      repeat' first|exact ih0 _ _ _ _|exact impl_PermOk.mono _ _|exact lo_|refine LeO.ite ?_ ?_|refine LeO.bind ?_ (fun _ => ?_)
theorem impl_InversePerm.mono : ∀ a0 k, LeO (impl_InversePerm.f k a0) (impl_InversePerm.f (k + 1) a0) := by
  intro a0 k
  have ih0 := impl_InversePerm.mono_l k
  unfold impl_InversePerm.f
  repeat' first|exact ih0 _ _ _ _|exact impl_PermOk.mono _ _|exact lo_|refine LeO.ite ?_ ?_|refine LeO.bind ?_ (fun _ => ?_)
set_option maxHeartbeats 8000000 in
set_option maxRecDepth 100000 in
theorem impl_InversePerm.calls (k : Nat) (A0 : Option Addr) (c0 : Nat) (l0 : List Int) (r : List Int) (w : World) (hr0 : Kd.C (Kd.int .i64) w A0 l0.length l0) (hc0 : l0.length ≤ c0) (h : impl_InversePerm.f k l0 = some r) :
    Calls Try.prog 69 #[.slice A0 l0.length c0] w fun e w' => ∃ v0_ : Value, e = .returned (v0_) ∧ Kd.R (Kd.int .i64) 3 w' w.heap.size (fun _ => True) v0_ r ∧ Below w.heap.size w w' := by
  have HR0 := Aside0.mk hr0
  have HC0 := Aside0.mk hc0
  clear hr0 hc0
  have HB := Aside0.mk (Below.refl w.heap.size w)
  have H := h
  unfold impl_InversePerm.f at H
  clear h
  obtain ⟨t342, A2, H⟩ := bi_ H
  by_cases c3 : t342 = true
  · subst c3
    rw [if_pos rfl] at H
    have c4 := cp_ H
    replace H := ca_ H
    have c4b0 := eq_true c4
    have c4b1 := decide_eq_true c4
    clear c4
    have c5 := cp_ H
    replace H := ca_ H
    have c5b0 := eq_true c5
    have c5b1 := decide_eq_true c5
    clear c5
    obtain ⟨y343, hy343⟩ : ∃ y_ : List Int, y_ = (List.replicate ((l0.length : Int) : Int).toNat 0) := ⟨_, rfl⟩
    replace H : (impl_InversePerm.l0 k y343 l0 (l0.length : Int) 0) = some r := by first | (rw [hy343]; exact H) | exact H
    have Ny343 := Aside0.mk hy343
    clear hy343
    have H' := Aside0.mk H
    clear H
    go_enter Try.func69, Try.ntmps69
    go_wp2_with (first | ((with_reducible refine gate_callee (f := 107) rfl ?_); refine gL_ (some 7) Try.func107 #[.slice A0 l0.length c0] rfl qa_ ?_; (with_reducible refine (impl_PermOk.calls k _ _ l0 true _ (cc_ HR0) HC0.out A2.out).mono ?_); rintro e w6 ⟨rfl, hb⟩; refine ⟨_, rfl, ?_⟩; replace HB := b1_ hb; clear hb) | ((with_reducible refine gate_dst (N := 11) rfl ?_); refine Kd.R_make (Kd.int .i64) _ 3 rfl (N := 11) rfl 23 _ _ rfl (l0.length : Int) rfl rfl Try.underlying23 (.int .i64 0) 8 info3 rfl (by decide) (by omega) 0 (ok := fun _ => True) (okp := fun _ => True) rfl (fun _ hk => hk) trivial (of_decide_eq_true qe_) (Nat.le_trans (Nat.mul_le_mul_right _ (of_decide_eq_true qe_ : (l0.length : Int).toNat ≤ 35184372088832)) (by omega)) (Below.refl _ _) (Nat.le_refl _) ?_; intro v344 w7 ho8 hb hg_ hnew_; clear hg_ hnew_; (first | rw [← Ny343.out] at ho8 | (simp only [Int.reduceToNat] at ho8; rw [← Ny343.out] at ho8)); have HO345 := rl_ w ho8; replace HB := b1_ hb; clear hb ho8))
    go_loopg [14] k (fun kq v14 w' => ∃ (x3_1 : List Int) (x14_1 : Int), v14 = .int .i64 x14_1 ∧ Aside0 (impl_InversePerm.l0 kq x3_1 l0 (l0.length : Int) x14_1 = some r) ∧ Aside0 (kq ≤ k) ∧ Aside0 (Kd.R (Kd.int .i64) 3 w' w.heap.size (fun _ => True) v344 x3_1) ∧ Aside0 (Below w.heap.size w w'))
    case atStart => exact ⟨(y343), (0), qc_, H', ⟨Nat.le_refl _⟩, ⟨(rr_ HO345)⟩, ⟨hB_⟩⟩
    case round =>
      clear H'
      obtain ⟨x3_1, x14_1, rfl, HA, HK1, HO_3, HB⟩ := hrel
      cases gk with
      | zero => exact absurd HA.out (by simp [impl_InversePerm.l0])
      | succ k1 =>
        have H := HA.out
        clear HA
        simp only [impl_InversePerm.l0] at H
        by_cases c9 : x14_1 < (l0.length : Int)
        · rw [if_pos c9] at H
          have c9b0 := decide_eq_true c9
          clear c9
          have c10 := cp_ H
          replace H := ca_ H
          have c10b0 := decide_eq_true c10
          clear c10
          have c11 := cp_ H
          replace H := ca_ H
          have c11b0 := decide_eq_true c11
          clear c11
          have c12 := cp_ H
          replace H := ca_ H
          have c12b0 := decide_eq_true c12
          clear c12
          have c13 := cp_ H
          replace H := ca_ H
          have c13b0 := decide_eq_true c13
          clear c13
          obtain ⟨y347, hy347⟩ : ∃ y_ : List Int, y_ = (x3_1.set ((rd l0 x14_1) : Int).toNat x14_1) := ⟨_, rfl⟩
          replace H : (impl_InversePerm.l0 k1 y347 l0 (l0.length : Int) (wrap64 (x14_1 + 1))) = some r := by first | (rw [hy347]; exact H) | exact H
          have Ny347 := Aside0.mk hy347
          clear hy347
          have H' := Aside0.mk H
          clear H
          have p346 : 0 ≤ (x14_1 : Int) := of_decide_eq_true qe_
          have q346 : x14_1 < (l0.length : Int) := of_decide_eq_true qe_
          obtain ⟨ad346, e346, hx346_0⟩ := Kd.at_int HR0.out x14_1 p346 q346
          cases e346
          replace hx346_0 := (HB.out.cell (World.block_lt_of_cell? w _ hx346_0)).trans hx346_0
          replace p346 := eq_true p346
          replace q346 := eq_true q346
          have p14 : 0 ≤ ((rd l0 x14_1) : Int) := of_decide_eq_true qe_
          have q14 : ((rd l0 x14_1) : Int) < ((x3_1.length : Int) : Int) := of_decide_eq_true qe_
          obtain ⟨go14, co14, eo14, gb14, gl14, cl14, HG14⟩ := Kd.R_form HO_3.out (by omega)
          (first | cases eo14 | (injection eo14 with ea_ en_ ec_; (first | subst ea_ | (injection ea_ with ea_; subst ea_)); subst ec_; clear en_))
          have GB14 := Aside0.mk gb14
          have GG14 := Aside0.mk HG14
          clear gb14 gl14 HG14
          obtain ⟨hx14_0, hf14_0⟩ := Kd.R_celln 0 HO_3.out ((rd l0 x14_1) : Int) p14 q14
          replace p14 := eq_true p14
          replace q14 := eq_true q14
          have HP15 := Kd.R_putg HO_3.out ((rd l0 x14_1) : Int) x14_1
          go_wp2_with (first | ((with_reducible refine gate_store (t := 3) (p := 22) rfl ?_); refine store_event (t := 3) (p := 22) (v := ?vo_w16) (w1 := (wr.setCell ⟨go14, ((rd l0 x14_1) : Int).toNat, none⟩ (.int .i64 x14_1))) ?hg ?ho ?hn ?hr ?_; (case ho => rfl); (case hg => rfl); (case hn => rfl); (case hr => first | (go_simp; done) | (go_simp; rfl)); intro w16 hw; have hg : wr.grownBy w16 (some go14) := (by rw [hw]; exact HP15.2); have hp_ : Kd.R (Kd.int .i64) 3 w16 w.heap.size (fun _ => True) (.slice (some ⟨go14, 0, none⟩) x3_1.length co14) y347 := (by rw [hw, Ny347.out]; exact HP15.1); clear HP15; replace HO_3 := Aside0.mk (hp_); replace HB := Aside0.mk ((by rw [hw]; exact below_set (HB.out) GB14.out : Below w.heap.size w w16)); clear hg hw hp_))
          go_roundg k1
          case measure => have := HK1.out; omega
          case rel => exact ⟨(y347), (wrap64 (x14_1 + 1)), qc_, H', ⟨by have := HK1.out; omega⟩, ⟨(rr_ HO_3)⟩, ⟨hB_⟩⟩
        · rw [if_neg c9] at H
          have c9b0 := decide_eq_false c9
          clear c9
          obtain rfl := Option.some.inj H
          go_wp2
          go_ret
          exact ⟨_, qb_, (rr_ HO_3), hB_⟩
  · replace c3 := Bool.eq_false_iff.mpr c3
    subst c3
    have H1 : (some ([] : List Int)) = some r := by rw [if_neg (show ¬ (false = true) by decide)] at H; exact H
    clear H
    have H := H1
    clear H1
    obtain rfl := Option.some.inj H
    go_enter Try.func69, Try.ntmps69
    go_wp2_with (first | ((with_reducible refine gate_callee (f := 107) rfl ?_); refine gL_ (some 7) Try.func107 #[.slice A0 l0.length c0] rfl qa_ ?_; (with_reducible refine (impl_PermOk.calls k _ _ l0 false _ (cc_ HR0) HC0.out A2.out).mono ?_); rintro e w17 ⟨rfl, hb⟩; refine ⟨_, rfl, ?_⟩; replace HB := b1_ hb; clear hb))
    go_ret
    exact ⟨_, qb_, by first | exact Kd.R_nil _ _ _ _ _ | exact Kd.N_nil _ _ _ _ _ | exact Kd.V_nil _ _ _ _ _ | exact Kd.Q_nil _ _ _ _ _ | exact Kd.S_nil _ _ _ _ _, hB_⟩
end Go.Proofs.Ytcggfjpnfodbaaa.A
end
section
namespace Go.Proofs.Ytcggfjpnfodbaaa.A
open Go.RowKit Go.Proofs.YtcggfjpnfodbaaaW.PrintWords Go.Proofs.YtcggfjpnfodbaaaW.PrintLast Go.Proofs.YtcggfjpnfodbaaaW.PrintMore
attribute [local go_sem] max2_int min2_int max_two min_two max_three min_three max_four min_four
set_option linter.unusedVariables false
set_option linter.unusedSimpArgs false
def impl_ShearSurface.f (k : Nat) (l0_0 : List Int) (l0_1 : List Int) : Option (List Int × List Int × Bool) := (impl_SurfaceOk.f k l0_0 l0_1).bind fun t350 => (if t350 = true then ((impl_copyInts.f l0_0).bind fun t351 => ((impl_InversePerm.f k l0_0).bind fun t354 => ((impl_ThenPerm.f k t354 l0_1).bind fun t357 => (some (t351, t357, true))))) else (some (([] : List Int), ([] : List Int), false)))
theorem impl_ShearSurface.mono : ∀ a0 a1 k, LeO (impl_ShearSurface.f k a0 a1) (impl_ShearSurface.f (k + 1) a0 a1) := by
  intro a0 a1 k
  unfold impl_ShearSurface.f
  repeat' first|exact impl_InversePerm.mono _ _|exact impl_SurfaceOk.mono _ _ _|exact impl_ThenPerm.mono _ _ _|exact lo_|refine LeO.ite ?_ ?_|refine LeO.bind ?_ (fun _ => ?_)
def impl_ShearSurface.T3 : Bool × List (List Nat × List Nat) := (true, [([], []), ([0], [0]), ([1], [1]), ([], []), ([3], [3]), ([4, 2], [4]), ([], []), ([6], [6]), ([5, 7, 5], [5, 7]), ([2, 8], [2, 8]), ([9, 8, 0, 1, 2, 3, 4, 5, 6, 7, 8, 9], [9]), ([10, 0, 1, 2, 3, 4, 5, 6, 7, 8, 9, 10], [])])
def impl_ShearSurface.B3 : List Nat := [0, 1, 3, 0, 8, 31, 0, 64, 255, 511, 1023, 2047]
theorem impl_ShearSurface.tab3 : rtab .any (opsOf Try.f22 3) = impl_ShearSurface.T3 := by kernel_rfl
theorem impl_ShearSurface.bits3 : waitsOk impl_ShearSurface.T3.2 impl_ShearSurface.B3 = true := by kernel_rfl
set_option maxHeartbeats 8000000 in
set_option maxRecDepth 100000 in
theorem impl_ShearSurface.calls (k : Nat) (A0_0 : Option Addr) (c0_0 : Nat) (l0_0 : List Int) (A0_1 : Option Addr) (c0_1 : Nat) (l0_1 : List Int) (r1 : List Int) (r2 : List Int) (r3 : Bool) (w : World) (hr0_0 : Kd.C (Kd.int .i64) w A0_0 l0_0.length l0_0) (hc0_0 : l0_0.length ≤ c0_0) (hr0_1 : Kd.C (Kd.int .i64) w A0_1 l0_1.length l0_1) (hc0_1 : l0_1.length ≤ c0_1) (h : impl_ShearSurface.f k l0_0 l0_1 = some (r1, r2, r3)) :
    Calls Try.prog 22 #[.agg #[.slice A0_0 l0_0.length c0_0, .slice A0_1 l0_1.length c0_1]] w fun e w' => ∃ v0_ v1_ : Value, e = .returned (.tuple #[.agg #[v0_, v1_], .bool r3]) ∧ Kd.R (Kd.int .i64) 3 w' w.heap.size (fun k_ => some k_ ≠ (v1_ : Value).ownBlock) v0_ r1 ∧ Kd.R (Kd.int .i64) 3 w' w.heap.size (fun k_ => some k_ ≠ (v0_ : Value).ownBlock) v1_ r2 ∧ Below w.heap.size w w' := by
  have hu25 := Try.underlying25
  have HR0_0 := Aside0.mk hr0_0
  have HC0_0 := Aside0.mk hc0_0
  clear hr0_0 hc0_0
  have HR0_1 := Aside0.mk hr0_1
  have HC0_1 := Aside0.mk hc0_1
  clear hr0_1 hc0_1
  have HB := Aside0.mk (Below.refl w.heap.size w)
  have H := h
  unfold impl_ShearSurface.f at H
  clear h
  obtain ⟨t350, A2, H⟩ := bi_ H
  by_cases c3 : t350 = true
  · subst c3
    rw [if_pos rfl] at H
    obtain ⟨t351, A4, H⟩ := bi_ H
    obtain ⟨t354, A5, H⟩ := bi_ H
    obtain ⟨t357, A6, H⟩ := bi_ H
    simp only [Option.some.injEq, Prod.mk.injEq] at H
    obtain ⟨rfl, rfl, rfl⟩ := H
    go_enter Try.func22, Try.ntmps22
    try go_wp2_with (first | ((with_reducible refine gate_dst (N := 1) rfl ?_); refine bx_ 1 #[.slice A0_0 l0_0.length c0_0, .slice A0_1 l0_1.length c0_1] 25 ?_; intro gb348 hg w7 hbox hb; have BK348 := Aside0.mk hbox; have GW348 := gw_ w hg; have GE348 := GW348; replace HB := b1_ hb; clear hb hbox hg) | ((with_reducible refine gate_dst (N := 2) rfl ?_); refine bx_ 2 #[.slice none 0 0, .slice none 0 0] 25 ?_; intro gb349 hg w8 hbox hb; have BK349 := Aside0.mk hbox; have GW349 := gw_ w hg; have GE349 := GW349; replace HB := b1_ hb; have NB348_349 := gN_ BK348 hg; have NB349_348 := gP_ BK348 hg; replace BK348 := bb_ BK348 hb; clear hb hbox hg; have hnb9 := NB348_349.out; have hnc9 := NB349_348.out; obtain ⟨hcz10_0, hcz10_1, hfz10_0, hfz10_1⟩ := c2_ BK348) | ((with_reducible refine gate_callee (f := 66) rfl ?_); refine gL_ (some 5) Try.func66 #[.agg #[.slice A0_0 l0_0.length c0_0, .slice A0_1 l0_1.length c0_1]] rfl qa_ ?_; (with_reducible refine (impl_SurfaceOk.calls k _ _ l0_0 _ _ l0_1 true _ (cb_ HR0_0) HC0_0.out (cb_ HR0_1) HC0_1.out A2.out).mono ?_); rintro e w11 ⟨rfl, hb⟩; refine ⟨_, rfl, ?_⟩; replace BK348 := bb_ BK348 hb; replace BK349 := bb_ BK349 hb; replace HB := b1_ hb; clear hb))
    replace BK348 := Aside0.mk (blk_drew BK348.out)
    replace BK349 := Aside0.mk (blk_drew BK349.out)
    replace HB := Aside0.mk (below_drew1 HB.out)
    refine start_ (n := 12) (S := fun w' => w'.cell? ⟨gb348, 0, none⟩ = some (.slice A0_0 l0_0.length c0_0) ∧ w'.cell? ⟨gb348, 1, none⟩ = some (.slice A0_1 l0_1.length c0_1)) (ds := []) (bl_ 12 0) (by kernel_rfl) rfl (by kernel_rfl) ⟨cz0_ BK348, cz1_ BK348⟩ (fun hHeld => ?_); refine with_tabW impl_ShearSurface.tab3 impl_ShearSurface.bits3 (fun HT_ HW_ => ?_)
    generalize w11.drew = w12 at BK348 BK349 HB hHeld ⊢
    refine pu_ 0 (some 8) (bl_ 12 1) HT_ ?_
    refine pu_ 3 (some 11) (bl_ 12 9) HT_ ?_
    refine pu_ 6 (some 14) (bl_ 12 73) HT_ ?_
    refine ta_ 1 (some 9) (bl_ 12 75) HT_ HW_ hHeld ?_
    refine ta_ 4 (some 12) (bl_ 12 91) HT_ HW_ hHeld ?_
    refine ta_ 7 (some 15) (bl_ 12 219) HT_ HW_ hHeld ?_
    refine on_ 2 (some 10) (bl_ 12 223) HT_ (fun K hK => ?_)
    refine gO_ Try.func67 #[.slice A0_0 l0_0.length c0_0] (by rfl) rfl rfl qa_ ?_
    with_reducible refine (impl_copyInts.calls _ _ l0_0 t351 _ (cb_ HR0_0) HC0_0.out A4.out).mono ?_
    rintro e w13 ⟨v352, rfl, ho0, hb⟩
    refine ⟨_, rfl, ?_⟩
    have HO353 := rl_ w ho0
    replace BK348 := bb_ BK348 hb
    replace BK349 := bb_ BK349 hb
    replace HB := b1_ hb
    clear hb ho0
    refine hK.out _ _ ⟨cz0_ BK348, cz1_ BK348⟩ (fun hHeld => ?_)
    clear hK K
    refine no_ (some 10) ?_
    refine on_ 5 (some 13) (bl_ 12 255) HT_ (fun K hK => ?_)
    refine gO_ Try.func69 #[.slice A0_0 l0_0.length c0_0] (by rfl) rfl rfl qa_ ?_
    with_reducible refine (impl_InversePerm.calls k _ _ l0_0 t354 _ (cb_ HR0_0) HC0_0.out A5.out).mono ?_
    rintro e w14 ⟨v355, rfl, ho0, hb⟩
    refine ⟨_, rfl, ?_⟩
    have HO356 := Aside0.mk (Kd.R_lower (Kd.R_new' ho0 (Kd.R_lt (rr_ HO353))) (below_size hB_))
    replace HO353 := Aside0.mk (Kd.R_elder' (rr_ HO353) (Kd.R_base ho0) hb)
    replace BK348 := bb_ BK348 hb
    replace BK349 := bb_ BK349 hb
    replace HB := b1_ hb
    clear hb ho0
    obtain ⟨Ao15, co15, eo15⟩ := Kd.R_slice HO356.out
    (first | subst eo15 | (injection eo15 with f1_ f2_ f3_; have f4_ := f1_.symm; have f5_ := f3_.symm; clear f1_ f2_ f3_; subst f4_; subst f5_))
    refine hK.out _ _ ⟨cz0_ BK348, cz1_ BK348⟩ (fun hHeld => ?_)
    clear hK K
    refine no_ (some 13) ?_
    refine on_ 8 (some 16) (bl_ 12 511) HT_ (fun K hK => ?_)
    refine gO_ Try.func68 #[.slice Ao15 t354.length co15, .slice A0_1 l0_1.length c0_1] (by rfl) rfl rfl qa_ ?_
    with_reducible refine (impl_ThenPerm.calls k _ _ t354 _ _ l0_1 t357 _ (cr_ HO356) ((Kd.R_reads' HO356.out).2.1) (cb_ HR0_1) HC0_1.out A6.out).mono ?_
    rintro e w16 ⟨v358, rfl, ho0, hb⟩
    refine ⟨_, rfl, ?_⟩
    have HO359 := Aside0.mk (Kd.R_lower (Kd.R_new' (Kd.R_new' ho0 (Kd.R_lt (rr_ HO353))) (Kd.R_lt (rr_ HO356))) (below_size hB_))
    replace HO353 := Aside0.mk (Kd.R_elder' (rr_ HO353) (Kd.R_base ho0) hb)
    replace HO356 := Aside0.mk (Kd.R_elder' (rr_ HO356) (Kd.R_base ho0) hb)
    replace BK348 := bb_ BK348 hb
    replace BK349 := bb_ BK349 hb
    replace HB := b1_ hb
    clear hb ho0
    obtain ⟨Ao17, co17, eo17⟩ := Kd.R_slice HO359.out
    (first | subst eo17 | (injection eo17 with f1_ f2_ f3_; have f4_ := f1_.symm; have f5_ := f3_.symm; clear f1_ f2_ f3_; subst f4_; subst f5_))
    obtain ⟨Ao18, co18, eo18⟩ := Kd.R_slice HO353.out
    (first | subst eo18 | (injection eo18 with f1_ f2_ f3_; have f4_ := f1_.symm; have f5_ := f3_.symm; clear f1_ f2_ f3_; subst f4_; subst f5_))
    refine hK.out _ _ ⟨cz0_ BK348, cz1_ BK348⟩ (fun hHeld => ?_)
    clear hK K
    refine no_ (some 16) ?_
    refine pu_ 9 (some 17) (bl_ 12 1023) HT_ ?_
    refine on_ 10 (none) (bl_ 12 2047) HT_ (fun K hK => ?_)
    have hs19 : w16.cell? ⟨gb349, 0, none⟩ = some (.slice none 0 0) := cz0_ BK349
    have hfs19 := blk_frozen BK349.out 0
    have hns19_0 := NB348_349.out
    have hms19_0 := NB349_348.out
    have hs20 : w16.cell? ⟨gb349, 1, none⟩ = some (.slice none 0 0) := cz1_ BK349
    have hfs20 := blk_frozen BK349.out 1
    have hns20_0 := NB348_349.out
    have hms20_0 := NB349_348.out
    refine skip_ (w1 := ?_) (by rfl) rfl ?_ ?_
    rotate_left
    · go_simp
      rfl
    refine hK.out _ _ ⟨((cell_far (p := ⟨gb349, _, none⟩) NB348_349.out _).trans (((cell_far (p := ⟨gb349, _, none⟩) NB348_349.out _).trans (hHeld.1)))), ((cell_far (p := ⟨gb349, _, none⟩) NB348_349.out _).trans (((cell_far (p := ⟨gb349, _, none⟩) NB348_349.out _).trans (hHeld.2))))⟩ (fun hHeld => ?_)
    clear hK K
    refine pu_ 11 (some 3) (bl_ 12 4095) HT_ ?_
    refine done_ (done_of HT_.out (by kernel_rfl)) ?_
    try go_wp2
    refine bodyPost_ret (results_ct rfl _ _ gb349 25 #[.slice Ao18 t351.length co18, .slice Ao17 t357.length co17] (0, 0) _ rfl qp_ Try.underlying25 rfl (by kernel_rfl)) rfl ?_
    exact ⟨_, _, qb_, (rw_ (Kd.R_mono (fa_ HO353 BK349) (fun _ hk => hk.2))), (rw_ (Kd.R_mono (fa_ HO359 BK349) (fun _ hk => hk.1.2))), hB_⟩
  · replace c3 := Bool.eq_false_iff.mpr c3
    subst c3
    have H1 : (some (([] : List Int), ([] : List Int), false)) = some (r1, r2, r3) := by rw [if_neg (show ¬ (false = true) by decide)] at H; exact H
    clear H
    have H := H1
    clear H1
    simp only [Option.some.injEq, Prod.mk.injEq] at H
    obtain ⟨rfl, rfl, rfl⟩ := H
    go_enter Try.func22, Try.ntmps22
    go_wp2_with (first | ((with_reducible refine gate_dst (N := 1) rfl ?_); refine bx_ 1 #[.slice A0_0 l0_0.length c0_0, .slice A0_1 l0_1.length c0_1] 25 ?_; intro gb348 hg w21 hbox hb; have BK348 := Aside0.mk hbox; have GW348 := gw_ w hg; have GE348 := GW348; replace HB := b1_ hb; clear hb hbox hg) | ((with_reducible refine gate_dst (N := 2) rfl ?_); refine bx_ 2 #[.slice none 0 0, .slice none 0 0] 25 ?_; intro gb349 hg w22 hbox hb; have BK349 := Aside0.mk hbox; have GW349 := gw_ w hg; have GE349 := GW349; replace HB := b1_ hb; have NB348_349 := gN_ BK348 hg; have NB349_348 := gP_ BK348 hg; replace BK348 := bb_ BK348 hb; clear hb hbox hg; have hnb23 := NB348_349.out; have hnc23 := NB349_348.out; obtain ⟨hcz24_0, hcz24_1, hfz24_0, hfz24_1⟩ := c2_ BK348) | ((with_reducible refine gate_callee (f := 66) rfl ?_); refine gL_ (some 5) Try.func66 #[.agg #[.slice A0_0 l0_0.length c0_0, .slice A0_1 l0_1.length c0_1]] rfl qa_ ?_; (with_reducible refine (impl_SurfaceOk.calls k _ _ l0_0 _ _ l0_1 false _ (cb_ HR0_0) HC0_0.out (cb_ HR0_1) HC0_1.out A2.out).mono ?_); rintro e w25 ⟨rfl, hb⟩; refine ⟨_, rfl, ?_⟩; replace BK348 := bb_ BK348 hb; replace BK349 := bb_ BK349 hb; replace HB := b1_ hb; clear hb; obtain ⟨hcz26_0, hcz26_1, hfz26_0, hfz26_1⟩ := c2_ BK349))
    refine bodyPost_ret (results_ct rfl _ _ gb349 25 #[.slice none 0 0, .slice none 0 0] (0, 0) _ rfl qp_ Try.underlying25 rfl (by kernel_rfl)) rfl ?_
    exact ⟨_, _, qb_, by first | exact Kd.R_nil _ _ _ _ _ | exact Kd.N_nil _ _ _ _ _ | exact Kd.V_nil _ _ _ _ _ | exact Kd.Q_nil _ _ _ _ _ | exact Kd.S_nil _ _ _ _ _, by first | exact Kd.R_nil _ _ _ _ _ | exact Kd.N_nil _ _ _ _ _ | exact Kd.V_nil _ _ _ _ _ | exact Kd.Q_nil _ _ _ _ _ | exact Kd.S_nil _ _ _ _ _, hB_⟩
end Go.Proofs.Ytcggfjpnfodbaaa.A
end
section
namespace Go.Proofs.Ytcggfjpnfodbaaa.A
open Go.RowKit Go.Proofs.YtcggfjpnfodbaaaW.PrintWords Go.Proofs.YtcggfjpnfodbaaaW.PrintLast Go.Proofs.YtcggfjpnfodbaaaW.PrintMore
attribute [local go_sem] max2_int min2_int max_two min_two max_three min_three max_four min_four
set_option linter.unusedVariables false
set_option linter.unusedSimpArgs false
def impl_UnshearSurface.f (k : Nat) (l0_0 : List Int) (l0_1 : List Int) : Option (List Int × List Int × Bool) := (impl_SurfaceOk.f k l0_0 l0_1).bind fun t362 => (if t362 = true then ((impl_copyInts.f l0_0).bind fun t363 => ((impl_ThenPerm.f k l0_0 l0_1).bind fun t366 => (some (t363, t366, true)))) else (some (([] : List Int), ([] : List Int), false)))
theorem impl_UnshearSurface.mono : ∀ a0 a1 k, LeO (impl_UnshearSurface.f k a0 a1) (impl_UnshearSurface.f (k + 1) a0 a1) := by
  intro a0 a1 k
  unfold impl_UnshearSurface.f
  repeat' first|exact impl_SurfaceOk.mono _ _ _|exact impl_ThenPerm.mono _ _ _|exact lo_|refine LeO.ite ?_ ?_|refine LeO.bind ?_ (fun _ => ?_)
def impl_UnshearSurface.T3 : Bool × List (List Nat × List Nat) := (true, [([], []), ([0], [0]), ([1], [1]), ([], []), ([3], [3]), ([], []), ([5], [5]), ([4, 6, 2], [4, 6]), ([2, 7], [2, 7]), ([8, 7, 0, 1, 2, 3, 4, 5, 6, 7, 8], [8]), ([9, 0, 1, 2, 3, 4, 5, 6, 7, 8, 9], [])])
def impl_UnshearSurface.B3 : List Nat := [0, 1, 3, 0, 8, 0, 32, 127, 255, 511, 1023]
theorem impl_UnshearSurface.tab3 : rtab .any (opsOf Try.f99 3) = impl_UnshearSurface.T3 := by kernel_rfl
theorem impl_UnshearSurface.bits3 : waitsOk impl_UnshearSurface.T3.2 impl_UnshearSurface.B3 = true := by kernel_rfl
set_option maxHeartbeats 8000000 in
set_option maxRecDepth 100000 in
theorem impl_UnshearSurface.calls (k : Nat) (A0_0 : Option Addr) (c0_0 : Nat) (l0_0 : List Int) (A0_1 : Option Addr) (c0_1 : Nat) (l0_1 : List Int) (r1 : List Int) (r2 : List Int) (r3 : Bool) (w : World) (hr0_0 : Kd.C (Kd.int .i64) w A0_0 l0_0.length l0_0) (hc0_0 : l0_0.length ≤ c0_0) (hr0_1 : Kd.C (Kd.int .i64) w A0_1 l0_1.length l0_1) (hc0_1 : l0_1.length ≤ c0_1) (h : impl_UnshearSurface.f k l0_0 l0_1 = some (r1, r2, r3)) :
    Calls Try.prog 99 #[.agg #[.slice A0_0 l0_0.length c0_0, .slice A0_1 l0_1.length c0_1]] w fun e w' => ∃ v0_ v1_ : Value, e = .returned (.tuple #[.agg #[v0_, v1_], .bool r3]) ∧ Kd.R (Kd.int .i64) 3 w' w.heap.size (fun k_ => some k_ ≠ (v1_ : Value).ownBlock) v0_ r1 ∧ Kd.R (Kd.int .i64) 3 w' w.heap.size (fun k_ => some k_ ≠ (v0_ : Value).ownBlock) v1_ r2 ∧ Below w.heap.size w w' := by
  have hu25 := Try.underlying25
  have HR0_0 := Aside0.mk hr0_0
  have HC0_0 := Aside0.mk hc0_0
  clear hr0_0 hc0_0
  have HR0_1 := Aside0.mk hr0_1
  have HC0_1 := Aside0.mk hc0_1
  clear hr0_1 hc0_1
  have HB := Aside0.mk (Below.refl w.heap.size w)
  have H := h
  unfold impl_UnshearSurface.f at H
  clear h
  obtain ⟨t362, A2, H⟩ := bi_ H
  by_cases c3 : t362 = true
  · subst c3
    rw [if_pos rfl] at H
    obtain ⟨t363, A4, H⟩ := bi_ H
    obtain ⟨t366, A5, H⟩ := bi_ H
    simp only [Option.some.injEq, Prod.mk.injEq] at H
    obtain ⟨rfl, rfl, rfl⟩ := H
    go_enter Try.func99, Try.ntmps99
    try go_wp2_with (first | ((with_reducible refine gate_dst (N := 1) rfl ?_); refine bx_ 1 #[.slice A0_0 l0_0.length c0_0, .slice A0_1 l0_1.length c0_1] 25 ?_; intro gb360 hg w6 hbox hb; have BK360 := Aside0.mk hbox; have GW360 := gw_ w hg; have GE360 := GW360; replace HB := b1_ hb; clear hb hbox hg) | ((with_reducible refine gate_dst (N := 2) rfl ?_); refine bx_ 2 #[.slice none 0 0, .slice none 0 0] 25 ?_; intro gb361 hg w7 hbox hb; have BK361 := Aside0.mk hbox; have GW361 := gw_ w hg; have GE361 := GW361; replace HB := b1_ hb; have NB360_361 := gN_ BK360 hg; have NB361_360 := gP_ BK360 hg; replace BK360 := bb_ BK360 hb; clear hb hbox hg; have hnb8 := NB360_361.out; have hnc8 := NB361_360.out; obtain ⟨hcz9_0, hcz9_1, hfz9_0, hfz9_1⟩ := c2_ BK360) | ((with_reducible refine gate_callee (f := 66) rfl ?_); refine gL_ (some 5) Try.func66 #[.agg #[.slice A0_0 l0_0.length c0_0, .slice A0_1 l0_1.length c0_1]] rfl qa_ ?_; (with_reducible refine (impl_SurfaceOk.calls k _ _ l0_0 _ _ l0_1 true _ (cb_ HR0_0) HC0_0.out (cb_ HR0_1) HC0_1.out A2.out).mono ?_); rintro e w10 ⟨rfl, hb⟩; refine ⟨_, rfl, ?_⟩; replace BK360 := bb_ BK360 hb; replace BK361 := bb_ BK361 hb; replace HB := b1_ hb; clear hb))
    replace BK360 := Aside0.mk (blk_drew BK360.out)
    replace BK361 := Aside0.mk (blk_drew BK361.out)
    replace HB := Aside0.mk (below_drew1 HB.out)
    refine start_ (n := 11) (S := fun w' => w'.cell? ⟨gb360, 0, none⟩ = some (.slice A0_0 l0_0.length c0_0) ∧ w'.cell? ⟨gb360, 1, none⟩ = some (.slice A0_1 l0_1.length c0_1)) (ds := []) (bl_ 11 0) (by kernel_rfl) rfl (by kernel_rfl) ⟨cz0_ BK360, cz1_ BK360⟩ (fun hHeld => ?_); refine with_tabW impl_UnshearSurface.tab3 impl_UnshearSurface.bits3 (fun HT_ HW_ => ?_)
    generalize w10.drew = w11 at BK360 BK361 HB hHeld ⊢
    refine pu_ 0 (some 8) (bl_ 11 1) HT_ ?_
    refine pu_ 3 (some 11) (bl_ 11 9) HT_ ?_
    refine pu_ 5 (some 13) (bl_ 11 41) HT_ ?_
    refine ta_ 1 (some 9) (bl_ 11 43) HT_ HW_ hHeld ?_
    refine ta_ 4 (some 12) (bl_ 11 59) HT_ HW_ hHeld ?_
    refine ta_ 6 (some 14) (bl_ 11 123) HT_ HW_ hHeld ?_
    refine on_ 2 (some 10) (bl_ 11 127) HT_ (fun K hK => ?_)
    refine gO_ Try.func67 #[.slice A0_0 l0_0.length c0_0] (by rfl) rfl rfl qa_ ?_
    with_reducible refine (impl_copyInts.calls _ _ l0_0 t363 _ (cb_ HR0_0) HC0_0.out A4.out).mono ?_
    rintro e w12 ⟨v364, rfl, ho0, hb⟩
    refine ⟨_, rfl, ?_⟩
    have HO365 := rl_ w ho0
    replace BK360 := bb_ BK360 hb
    replace BK361 := bb_ BK361 hb
    replace HB := b1_ hb
    clear hb ho0
    refine hK.out _ _ ⟨cz0_ BK360, cz1_ BK360⟩ (fun hHeld => ?_)
    clear hK K
    refine no_ (some 10) ?_
    refine on_ 7 (some 15) (bl_ 11 255) HT_ (fun K hK => ?_)
    refine gO_ Try.func68 #[.slice A0_0 l0_0.length c0_0, .slice A0_1 l0_1.length c0_1] (by rfl) rfl rfl qa_ ?_
    with_reducible refine (impl_ThenPerm.calls k _ _ l0_0 _ _ l0_1 t366 _ (cb_ HR0_0) HC0_0.out (cb_ HR0_1) HC0_1.out A5.out).mono ?_
    rintro e w13 ⟨v367, rfl, ho0, hb⟩
    refine ⟨_, rfl, ?_⟩
    have HO368 := Aside0.mk (Kd.R_lower (Kd.R_new' ho0 (Kd.R_lt (rr_ HO365))) (below_size hB_))
    replace HO365 := Aside0.mk (Kd.R_elder' (rr_ HO365) (Kd.R_base ho0) hb)
    replace BK360 := bb_ BK360 hb
    replace BK361 := bb_ BK361 hb
    replace HB := b1_ hb
    clear hb ho0
    obtain ⟨Ao14, co14, eo14⟩ := Kd.R_slice HO368.out
    (first | subst eo14 | (injection eo14 with f1_ f2_ f3_; have f4_ := f1_.symm; have f5_ := f3_.symm; clear f1_ f2_ f3_; subst f4_; subst f5_))
    obtain ⟨Ao15, co15, eo15⟩ := Kd.R_slice HO365.out
    (first | subst eo15 | (injection eo15 with f1_ f2_ f3_; have f4_ := f1_.symm; have f5_ := f3_.symm; clear f1_ f2_ f3_; subst f4_; subst f5_))
    refine hK.out _ _ ⟨cz0_ BK360, cz1_ BK360⟩ (fun hHeld => ?_)
    clear hK K
    refine no_ (some 15) ?_
    refine pu_ 8 (some 16) (bl_ 11 511) HT_ ?_
    refine on_ 9 (none) (bl_ 11 1023) HT_ (fun K hK => ?_)
    have hs16 : w13.cell? ⟨gb361, 0, none⟩ = some (.slice none 0 0) := cz0_ BK361
    have hfs16 := blk_frozen BK361.out 0
    have hns16_0 := NB360_361.out
    have hms16_0 := NB361_360.out
    have hs17 : w13.cell? ⟨gb361, 1, none⟩ = some (.slice none 0 0) := cz1_ BK361
    have hfs17 := blk_frozen BK361.out 1
    have hns17_0 := NB360_361.out
    have hms17_0 := NB361_360.out
    refine skip_ (w1 := ?_) (by rfl) rfl ?_ ?_
    rotate_left
    · go_simp
      rfl
    refine hK.out _ _ ⟨((cell_far (p := ⟨gb361, _, none⟩) NB360_361.out _).trans (((cell_far (p := ⟨gb361, _, none⟩) NB360_361.out _).trans (hHeld.1)))), ((cell_far (p := ⟨gb361, _, none⟩) NB360_361.out _).trans (((cell_far (p := ⟨gb361, _, none⟩) NB360_361.out _).trans (hHeld.2))))⟩ (fun hHeld => ?_)
    clear hK K
    refine pu_ 10 (some 3) (bl_ 11 2047) HT_ ?_
    refine done_ (done_of HT_.out (by kernel_rfl)) ?_
    try go_wp2
    refine bodyPost_ret (results_ct rfl _ _ gb361 25 #[.slice Ao15 t363.length co15, .slice Ao14 t366.length co14] (0, 0) _ rfl qp_ Try.underlying25 rfl (by kernel_rfl)) rfl ?_
    exact ⟨_, _, qb_, (rw_ (Kd.R_mono (fa_ HO365 BK361) (fun _ hk => hk.2))), (rw_ (Kd.R_mono (fa_ HO368 BK361) (fun _ hk => hk.2))), hB_⟩
  · replace c3 := Bool.eq_false_iff.mpr c3
    subst c3
    have H1 : (some (([] : List Int), ([] : List Int), false)) = some (r1, r2, r3) := by rw [if_neg (show ¬ (false = true) by decide)] at H; exact H
    clear H
    have H := H1
    clear H1
    simp only [Option.some.injEq, Prod.mk.injEq] at H
    obtain ⟨rfl, rfl, rfl⟩ := H
    go_enter Try.func99, Try.ntmps99
    go_wp2_with (first | ((with_reducible refine gate_dst (N := 1) rfl ?_); refine bx_ 1 #[.slice A0_0 l0_0.length c0_0, .slice A0_1 l0_1.length c0_1] 25 ?_; intro gb360 hg w18 hbox hb; have BK360 := Aside0.mk hbox; have GW360 := gw_ w hg; have GE360 := GW360; replace HB := b1_ hb; clear hb hbox hg) | ((with_reducible refine gate_dst (N := 2) rfl ?_); refine bx_ 2 #[.slice none 0 0, .slice none 0 0] 25 ?_; intro gb361 hg w19 hbox hb; have BK361 := Aside0.mk hbox; have GW361 := gw_ w hg; have GE361 := GW361; replace HB := b1_ hb; have NB360_361 := gN_ BK360 hg; have NB361_360 := gP_ BK360 hg; replace BK360 := bb_ BK360 hb; clear hb hbox hg; have hnb20 := NB360_361.out; have hnc20 := NB361_360.out; obtain ⟨hcz21_0, hcz21_1, hfz21_0, hfz21_1⟩ := c2_ BK360) | ((with_reducible refine gate_callee (f := 66) rfl ?_); refine gL_ (some 5) Try.func66 #[.agg #[.slice A0_0 l0_0.length c0_0, .slice A0_1 l0_1.length c0_1]] rfl qa_ ?_; (with_reducible refine (impl_SurfaceOk.calls k _ _ l0_0 _ _ l0_1 false _ (cb_ HR0_0) HC0_0.out (cb_ HR0_1) HC0_1.out A2.out).mono ?_); rintro e w22 ⟨rfl, hb⟩; refine ⟨_, rfl, ?_⟩; replace BK360 := bb_ BK360 hb; replace BK361 := bb_ BK361 hb; replace HB := b1_ hb; clear hb; obtain ⟨hcz23_0, hcz23_1, hfz23_0, hfz23_1⟩ := c2_ BK361))
    refine bodyPost_ret (results_ct rfl _ _ gb361 25 #[.slice none 0 0, .slice none 0 0] (0, 0) _ rfl qp_ Try.underlying25 rfl (by kernel_rfl)) rfl ?_
    exact ⟨_, _, qb_, by first | exact Kd.R_nil _ _ _ _ _ | exact Kd.N_nil _ _ _ _ _ | exact Kd.V_nil _ _ _ _ _ | exact Kd.Q_nil _ _ _ _ _ | exact Kd.S_nil _ _ _ _ _, by first | exact Kd.R_nil _ _ _ _ _ | exact Kd.N_nil _ _ _ _ _ | exact Kd.V_nil _ _ _ _ _ | exact Kd.Q_nil _ _ _ _ _ | exact Kd.S_nil _ _ _ _ _, hB_⟩
end Go.Proofs.Ytcggfjpnfodbaaa.A
end
section
namespace Go.Proofs.Ytcggfjpnfodbaaa.A
open Go.RowKit Go.Proofs.YtcggfjpnfodbaaaW.PrintWords Go.Proofs.YtcggfjpnfodbaaaW.PrintLast Go.Proofs.YtcggfjpnfodbaaaW.PrintMore
attribute [local go_sem] max2_int min2_int max_two min_two max_three min_three max_four min_four
set_option linter.unusedVariables false
set_option linter.unusedSimpArgs false
def impl_TurnSurface.f (k : Nat) (l0_0 : List Int) (l0_1 : List Int) : Option (List Int × List Int × Bool) := (impl_SurfaceOk.f k l0_0 l0_1).bind fun t371 => (if t371 = true then ((impl_InversePerm.f k l0_1).bind fun t372 => ((impl_copyInts.f l0_0).bind fun t375 => (some (t372, t375, true)))) else (some (([] : List Int), ([] : List Int), false)))
theorem impl_TurnSurface.mono : ∀ a0 a1 k, LeO (impl_TurnSurface.f k a0 a1) (impl_TurnSurface.f (k + 1) a0 a1) := by
  intro a0 a1 k
  unfold impl_TurnSurface.f
  repeat' first|exact impl_InversePerm.mono _ _|exact impl_SurfaceOk.mono _ _ _|exact lo_|refine LeO.ite ?_ ?_|refine LeO.bind ?_ (fun _ => ?_)
def impl_TurnSurface.T3 : Bool × List (List Nat × List Nat) := (true, [([], []), ([0], [0]), ([1], [1]), ([], []), ([3], [3]), ([4, 2], [4]), ([2, 5], [2, 5]), ([6, 5, 0, 1, 2, 3, 4, 5, 6], [6]), ([7, 0, 1, 2, 3, 4, 5, 6, 7], [])])
def impl_TurnSurface.B3 : List Nat := [0, 1, 3, 0, 8, 31, 63, 127, 255]
theorem impl_TurnSurface.tab3 : rtab .any (opsOf Try.f100 3) = impl_TurnSurface.T3 := by kernel_rfl
theorem impl_TurnSurface.bits3 : waitsOk impl_TurnSurface.T3.2 impl_TurnSurface.B3 = true := by kernel_rfl
set_option maxHeartbeats 8000000 in
set_option maxRecDepth 100000 in
theorem impl_TurnSurface.calls (k : Nat) (A0_0 : Option Addr) (c0_0 : Nat) (l0_0 : List Int) (A0_1 : Option Addr) (c0_1 : Nat) (l0_1 : List Int) (r1 : List Int) (r2 : List Int) (r3 : Bool) (w : World) (hr0_0 : Kd.C (Kd.int .i64) w A0_0 l0_0.length l0_0) (hc0_0 : l0_0.length ≤ c0_0) (hr0_1 : Kd.C (Kd.int .i64) w A0_1 l0_1.length l0_1) (hc0_1 : l0_1.length ≤ c0_1) (h : impl_TurnSurface.f k l0_0 l0_1 = some (r1, r2, r3)) :
    Calls Try.prog 100 #[.agg #[.slice A0_0 l0_0.length c0_0, .slice A0_1 l0_1.length c0_1]] w fun e w' => ∃ v0_ v1_ : Value, e = .returned (.tuple #[.agg #[v0_, v1_], .bool r3]) ∧ Kd.R (Kd.int .i64) 3 w' w.heap.size (fun k_ => some k_ ≠ (v1_ : Value).ownBlock) v0_ r1 ∧ Kd.R (Kd.int .i64) 3 w' w.heap.size (fun k_ => some k_ ≠ (v0_ : Value).ownBlock) v1_ r2 ∧ Below w.heap.size w w' := by
  have hu25 := Try.underlying25
  have HR0_0 := Aside0.mk hr0_0
  have HC0_0 := Aside0.mk hc0_0
  clear hr0_0 hc0_0
  have HR0_1 := Aside0.mk hr0_1
  have HC0_1 := Aside0.mk hc0_1
  clear hr0_1 hc0_1
  have HB := Aside0.mk (Below.refl w.heap.size w)
  have H := h
  unfold impl_TurnSurface.f at H
  clear h
  obtain ⟨t371, A2, H⟩ := bi_ H
  by_cases c3 : t371 = true
  · subst c3
    rw [if_pos rfl] at H
    obtain ⟨t372, A4, H⟩ := bi_ H
    obtain ⟨t375, A5, H⟩ := bi_ H
    simp only [Option.some.injEq, Prod.mk.injEq] at H
    obtain ⟨rfl, rfl, rfl⟩ := H
    go_enter Try.func100, Try.ntmps100
    try go_wp2_with (first | ((with_reducible refine gate_dst (N := 1) rfl ?_); refine bx_ 1 #[.slice A0_0 l0_0.length c0_0, .slice A0_1 l0_1.length c0_1] 25 ?_; intro gb369 hg w6 hbox hb; have BK369 := Aside0.mk hbox; have GW369 := gw_ w hg; have GE369 := GW369; replace HB := b1_ hb; clear hb hbox hg) | ((with_reducible refine gate_dst (N := 2) rfl ?_); refine bx_ 2 #[.slice none 0 0, .slice none 0 0] 25 ?_; intro gb370 hg w7 hbox hb; have BK370 := Aside0.mk hbox; have GW370 := gw_ w hg; have GE370 := GW370; replace HB := b1_ hb; have NB369_370 := gN_ BK369 hg; have NB370_369 := gP_ BK369 hg; replace BK369 := bb_ BK369 hb; clear hb hbox hg; have hnb8 := NB369_370.out; have hnc8 := NB370_369.out; obtain ⟨hcz9_0, hcz9_1, hfz9_0, hfz9_1⟩ := c2_ BK369) | ((with_reducible refine gate_callee (f := 66) rfl ?_); refine gL_ (some 5) Try.func66 #[.agg #[.slice A0_0 l0_0.length c0_0, .slice A0_1 l0_1.length c0_1]] rfl qa_ ?_; (with_reducible refine (impl_SurfaceOk.calls k _ _ l0_0 _ _ l0_1 true _ (cb_ HR0_0) HC0_0.out (cb_ HR0_1) HC0_1.out A2.out).mono ?_); rintro e w10 ⟨rfl, hb⟩; refine ⟨_, rfl, ?_⟩; replace BK369 := bb_ BK369 hb; replace BK370 := bb_ BK370 hb; replace HB := b1_ hb; clear hb))
    replace BK369 := Aside0.mk (blk_drew BK369.out)
    replace BK370 := Aside0.mk (blk_drew BK370.out)
    replace HB := Aside0.mk (below_drew1 HB.out)
    refine start_ (n := 9) (S := fun w' => w'.cell? ⟨gb369, 0, none⟩ = some (.slice A0_0 l0_0.length c0_0) ∧ w'.cell? ⟨gb369, 1, none⟩ = some (.slice A0_1 l0_1.length c0_1)) (ds := []) (bl_ 9 0) (by kernel_rfl) rfl (by kernel_rfl) ⟨cz0_ BK369, cz1_ BK369⟩ (fun hHeld => ?_); refine with_tabW impl_TurnSurface.tab3 impl_TurnSurface.bits3 (fun HT_ HW_ => ?_)
    generalize w10.drew = w11 at BK369 BK370 HB hHeld ⊢
    refine pu_ 0 (some 8) (bl_ 9 1) HT_ ?_
    refine pu_ 3 (some 11) (bl_ 9 9) HT_ ?_
    refine ta_ 1 (some 9) (bl_ 9 11) HT_ HW_ hHeld ?_
    refine ta_ 4 (some 12) (bl_ 9 27) HT_ HW_ hHeld ?_
    refine on_ 2 (some 10) (bl_ 9 31) HT_ (fun K hK => ?_)
    refine gO_ Try.func69 #[.slice A0_1 l0_1.length c0_1] (by rfl) rfl rfl qa_ ?_
    with_reducible refine (impl_InversePerm.calls k _ _ l0_1 t372 _ (cb_ HR0_1) HC0_1.out A4.out).mono ?_
    rintro e w12 ⟨v373, rfl, ho0, hb⟩
    refine ⟨_, rfl, ?_⟩
    have HO374 := rl_ w ho0
    replace BK369 := bb_ BK369 hb
    replace BK370 := bb_ BK370 hb
    replace HB := b1_ hb
    clear hb ho0
    refine hK.out _ _ ⟨cz0_ BK369, cz1_ BK369⟩ (fun hHeld => ?_)
    clear hK K
    refine no_ (some 10) ?_
    refine on_ 5 (some 13) (bl_ 9 63) HT_ (fun K hK => ?_)
    refine gO_ Try.func67 #[.slice A0_0 l0_0.length c0_0] (by rfl) rfl rfl qa_ ?_
    with_reducible refine (impl_copyInts.calls _ _ l0_0 t375 _ (cb_ HR0_0) HC0_0.out A5.out).mono ?_
    rintro e w13 ⟨v376, rfl, ho0, hb⟩
    refine ⟨_, rfl, ?_⟩
    have HO377 := Aside0.mk (Kd.R_lower (Kd.R_new' ho0 (Kd.R_lt (rr_ HO374))) (below_size hB_))
    replace HO374 := Aside0.mk (Kd.R_elder' (rr_ HO374) (Kd.R_base ho0) hb)
    replace BK369 := bb_ BK369 hb
    replace BK370 := bb_ BK370 hb
    replace HB := b1_ hb
    clear hb ho0
    obtain ⟨Ao14, co14, eo14⟩ := Kd.R_slice HO377.out
    (first | subst eo14 | (injection eo14 with f1_ f2_ f3_; have f4_ := f1_.symm; have f5_ := f3_.symm; clear f1_ f2_ f3_; subst f4_; subst f5_))
    obtain ⟨Ao15, co15, eo15⟩ := Kd.R_slice HO374.out
    (first | subst eo15 | (injection eo15 with f1_ f2_ f3_; have f4_ := f1_.symm; have f5_ := f3_.symm; clear f1_ f2_ f3_; subst f4_; subst f5_))
    refine hK.out _ _ ⟨cz0_ BK369, cz1_ BK369⟩ (fun hHeld => ?_)
    clear hK K
    refine no_ (some 13) ?_
    refine pu_ 6 (some 14) (bl_ 9 127) HT_ ?_
    refine on_ 7 (none) (bl_ 9 255) HT_ (fun K hK => ?_)
    have hs16 : w13.cell? ⟨gb370, 0, none⟩ = some (.slice none 0 0) := cz0_ BK370
    have hfs16 := blk_frozen BK370.out 0
    have hns16_0 := NB369_370.out
    have hms16_0 := NB370_369.out
    have hs17 : w13.cell? ⟨gb370, 1, none⟩ = some (.slice none 0 0) := cz1_ BK370
    have hfs17 := blk_frozen BK370.out 1
    have hns17_0 := NB369_370.out
    have hms17_0 := NB370_369.out
    refine skip_ (w1 := ?_) (by rfl) rfl ?_ ?_
    rotate_left
    · go_simp
      rfl
    refine hK.out _ _ ⟨((cell_far (p := ⟨gb370, _, none⟩) NB369_370.out _).trans (((cell_far (p := ⟨gb370, _, none⟩) NB369_370.out _).trans (hHeld.1)))), ((cell_far (p := ⟨gb370, _, none⟩) NB369_370.out _).trans (((cell_far (p := ⟨gb370, _, none⟩) NB369_370.out _).trans (hHeld.2))))⟩ (fun hHeld => ?_)
    clear hK K
    refine pu_ 8 (some 3) (bl_ 9 511) HT_ ?_
    refine done_ (done_of HT_.out (by kernel_rfl)) ?_
    try go_wp2
    refine bodyPost_ret (results_ct rfl _ _ gb370 25 #[.slice Ao15 t372.length co15, .slice Ao14 t375.length co14] (0, 0) _ rfl qp_ Try.underlying25 rfl (by kernel_rfl)) rfl ?_
    exact ⟨_, _, qb_, (rw_ (Kd.R_mono (fa_ HO374 BK370) (fun _ hk => hk.2))), (rw_ (Kd.R_mono (fa_ HO377 BK370) (fun _ hk => hk.2))), hB_⟩
  · replace c3 := Bool.eq_false_iff.mpr c3
    subst c3
    have H1 : (some (([] : List Int), ([] : List Int), false)) = some (r1, r2, r3) := by rw [if_neg (show ¬ (false = true) by decide)] at H; exact H
    clear H
    have H := H1
    clear H1
    simp only [Option.some.injEq, Prod.mk.injEq] at H
    obtain ⟨rfl, rfl, rfl⟩ := H
    go_enter Try.func100, Try.ntmps100
    go_wp2_with (first | ((with_reducible refine gate_dst (N := 1) rfl ?_); refine bx_ 1 #[.slice A0_0 l0_0.length c0_0, .slice A0_1 l0_1.length c0_1] 25 ?_; intro gb369 hg w18 hbox hb; have BK369 := Aside0.mk hbox; have GW369 := gw_ w hg; have GE369 := GW369; replace HB := b1_ hb; clear hb hbox hg) | ((with_reducible refine gate_dst (N := 2) rfl ?_); refine bx_ 2 #[.slice none 0 0, .slice none 0 0] 25 ?_; intro gb370 hg w19 hbox hb; have BK370 := Aside0.mk hbox; have GW370 := gw_ w hg; have GE370 := GW370; replace HB := b1_ hb; have NB369_370 := gN_ BK369 hg; have NB370_369 := gP_ BK369 hg; replace BK369 := bb_ BK369 hb; clear hb hbox hg; have hnb20 := NB369_370.out; have hnc20 := NB370_369.out; obtain ⟨hcz21_0, hcz21_1, hfz21_0, hfz21_1⟩ := c2_ BK369) | ((with_reducible refine gate_callee (f := 66) rfl ?_); refine gL_ (some 5) Try.func66 #[.agg #[.slice A0_0 l0_0.length c0_0, .slice A0_1 l0_1.length c0_1]] rfl qa_ ?_; (with_reducible refine (impl_SurfaceOk.calls k _ _ l0_0 _ _ l0_1 false _ (cb_ HR0_0) HC0_0.out (cb_ HR0_1) HC0_1.out A2.out).mono ?_); rintro e w22 ⟨rfl, hb⟩; refine ⟨_, rfl, ?_⟩; replace BK369 := bb_ BK369 hb; replace BK370 := bb_ BK370 hb; replace HB := b1_ hb; clear hb; obtain ⟨hcz23_0, hcz23_1, hfz23_0, hfz23_1⟩ := c2_ BK370))
    refine bodyPost_ret (results_ct rfl _ _ gb370 25 #[.slice none 0 0, .slice none 0 0] (0, 0) _ rfl qp_ Try.underlying25 rfl (by kernel_rfl)) rfl ?_
    exact ⟨_, _, qb_, by first | exact Kd.R_nil _ _ _ _ _ | exact Kd.N_nil _ _ _ _ _ | exact Kd.V_nil _ _ _ _ _ | exact Kd.Q_nil _ _ _ _ _ | exact Kd.S_nil _ _ _ _ _, by first | exact Kd.R_nil _ _ _ _ _ | exact Kd.N_nil _ _ _ _ _ | exact Kd.V_nil _ _ _ _ _ | exact Kd.Q_nil _ _ _ _ _ | exact Kd.S_nil _ _ _ _ _, hB_⟩
end Go.Proofs.Ytcggfjpnfodbaaa.A
end
section
namespace Go.Proofs.Ytcggfjpnfodbaaa.A
open Go.RowKit Go.Proofs.YtcggfjpnfodbaaaW.PrintWords Go.Proofs.YtcggfjpnfodbaaaW.PrintLast Go.Proofs.YtcggfjpnfodbaaaW.PrintMore
attribute [local go_sem] max2_int min2_int max_two min_two max_three min_three max_four min_four
set_option linter.unusedVariables false
set_option linter.unusedSimpArgs false
def impl_UnturnSurface.f (k : Nat) (l0_0 : List Int) (l0_1 : List Int) : Option (List Int × List Int × Bool) := (impl_SurfaceOk.f k l0_0 l0_1).bind fun t380 => (if t380 = true then ((impl_copyInts.f l0_1).bind fun t381 => ((impl_InversePerm.f k l0_0).bind fun t384 => (some (t381, t384, true)))) else (some (([] : List Int), ([] : List Int), false)))
theorem impl_UnturnSurface.mono : ∀ a0 a1 k, LeO (impl_UnturnSurface.f k a0 a1) (impl_UnturnSurface.f (k + 1) a0 a1) := by
  intro a0 a1 k
  unfold impl_UnturnSurface.f
  repeat' first|exact impl_InversePerm.mono _ _|exact impl_SurfaceOk.mono _ _ _|exact lo_|refine LeO.ite ?_ ?_|refine LeO.bind ?_ (fun _ => ?_)
def impl_UnturnSurface.T3 : Bool × List (List Nat × List Nat) := (true, [([], []), ([0], [0]), ([1], [1]), ([], []), ([3], [3]), ([4, 2], [4]), ([2, 5], [2, 5]), ([6, 5, 0, 1, 2, 3, 4, 5, 6], [6]), ([7, 0, 1, 2, 3, 4, 5, 6, 7], [])])
def impl_UnturnSurface.B3 : List Nat := [0, 1, 3, 0, 8, 31, 63, 127, 255]
theorem impl_UnturnSurface.tab3 : rtab .any (opsOf Try.f101 3) = impl_UnturnSurface.T3 := by kernel_rfl
theorem impl_UnturnSurface.bits3 : waitsOk impl_UnturnSurface.T3.2 impl_UnturnSurface.B3 = true := by kernel_rfl
set_option maxHeartbeats 8000000 in
set_option maxRecDepth 100000 in
theorem impl_UnturnSurface.calls (k : Nat) (A0_0 : Option Addr) (c0_0 : Nat) (l0_0 : List Int) (A0_1 : Option Addr) (c0_1 : Nat) (l0_1 : List Int) (r1 : List Int) (r2 : List Int) (r3 : Bool) (w : World) (hr0_0 : Kd.C (Kd.int .i64) w A0_0 l0_0.length l0_0) (hc0_0 : l0_0.length ≤ c0_0) (hr0_1 : Kd.C (Kd.int .i64) w A0_1 l0_1.length l0_1) (hc0_1 : l0_1.length ≤ c0_1) (h : impl_UnturnSurface.f k l0_0 l0_1 = some (r1, r2, r3)) :
    Calls Try.prog 101 #[.agg #[.slice A0_0 l0_0.length c0_0, .slice A0_1 l0_1.length c0_1]] w fun e w' => ∃ v0_ v1_ : Value, e = .returned (.tuple #[.agg #[v0_, v1_], .bool r3]) ∧ Kd.R (Kd.int .i64) 3 w' w.heap.size (fun k_ => some k_ ≠ (v1_ : Value).ownBlock) v0_ r1 ∧ Kd.R (Kd.int .i64) 3 w' w.heap.size (fun k_ => some k_ ≠ (v0_ : Value).ownBlock) v1_ r2 ∧ Below w.heap.size w w' := by
  have hu25 := Try.underlying25
  have HR0_0 := Aside0.mk hr0_0
  have HC0_0 := Aside0.mk hc0_0
  clear hr0_0 hc0_0
  have HR0_1 := Aside0.mk hr0_1
  have HC0_1 := Aside0.mk hc0_1
  clear hr0_1 hc0_1
  have HB := Aside0.mk (Below.refl w.heap.size w)
  have H := h
  unfold impl_UnturnSurface.f at H
  clear h
  obtain ⟨t380, A2, H⟩ := bi_ H
  by_cases c3 : t380 = true
  · subst c3
    rw [if_pos rfl] at H
    obtain ⟨t381, A4, H⟩ := bi_ H
    obtain ⟨t384, A5, H⟩ := bi_ H
    simp only [Option.some.injEq, Prod.mk.injEq] at H
    obtain ⟨rfl, rfl, rfl⟩ := H
    go_enter Try.func101, Try.ntmps101
    try go_wp2_with (first | ((with_reducible refine gate_dst (N := 1) rfl ?_); refine bx_ 1 #[.slice A0_0 l0_0.length c0_0, .slice A0_1 l0_1.length c0_1] 25 ?_; intro gb378 hg w6 hbox hb; have BK378 := Aside0.mk hbox; have GW378 := gw_ w hg; have GE378 := GW378; replace HB := b1_ hb; clear hb hbox hg) | ((with_reducible refine gate_dst (N := 2) rfl ?_); refine bx_ 2 #[.slice none 0 0, .slice none 0 0] 25 ?_; intro gb379 hg w7 hbox hb; have BK379 := Aside0.mk hbox; have GW379 := gw_ w hg; have GE379 := GW379; replace HB := b1_ hb; have NB378_379 := gN_ BK378 hg; have NB379_378 := gP_ BK378 hg; replace BK378 := bb_ BK378 hb; clear hb hbox hg; have hnb8 := NB378_379.out; have hnc8 := NB379_378.out; obtain ⟨hcz9_0, hcz9_1, hfz9_0, hfz9_1⟩ := c2_ BK378) | ((with_reducible refine gate_callee (f := 66) rfl ?_); refine gL_ (some 5) Try.func66 #[.agg #[.slice A0_0 l0_0.length c0_0, .slice A0_1 l0_1.length c0_1]] rfl qa_ ?_; (with_reducible refine (impl_SurfaceOk.calls k _ _ l0_0 _ _ l0_1 true _ (cb_ HR0_0) HC0_0.out (cb_ HR0_1) HC0_1.out A2.out).mono ?_); rintro e w10 ⟨rfl, hb⟩; refine ⟨_, rfl, ?_⟩; replace BK378 := bb_ BK378 hb; replace BK379 := bb_ BK379 hb; replace HB := b1_ hb; clear hb))
    replace BK378 := Aside0.mk (blk_drew BK378.out)
    replace BK379 := Aside0.mk (blk_drew BK379.out)
    replace HB := Aside0.mk (below_drew1 HB.out)
    refine start_ (n := 9) (S := fun w' => w'.cell? ⟨gb378, 0, none⟩ = some (.slice A0_0 l0_0.length c0_0) ∧ w'.cell? ⟨gb378, 1, none⟩ = some (.slice A0_1 l0_1.length c0_1)) (ds := []) (bl_ 9 0) (by kernel_rfl) rfl (by kernel_rfl) ⟨cz0_ BK378, cz1_ BK378⟩ (fun hHeld => ?_); refine with_tabW impl_UnturnSurface.tab3 impl_UnturnSurface.bits3 (fun HT_ HW_ => ?_)
    generalize w10.drew = w11 at BK378 BK379 HB hHeld ⊢
    refine pu_ 0 (some 8) (bl_ 9 1) HT_ ?_
    refine pu_ 3 (some 11) (bl_ 9 9) HT_ ?_
    refine ta_ 1 (some 9) (bl_ 9 11) HT_ HW_ hHeld ?_
    refine ta_ 4 (some 12) (bl_ 9 27) HT_ HW_ hHeld ?_
    refine on_ 2 (some 10) (bl_ 9 31) HT_ (fun K hK => ?_)
    refine gO_ Try.func67 #[.slice A0_1 l0_1.length c0_1] (by rfl) rfl rfl qa_ ?_
    with_reducible refine (impl_copyInts.calls _ _ l0_1 t381 _ (cb_ HR0_1) HC0_1.out A4.out).mono ?_
    rintro e w12 ⟨v382, rfl, ho0, hb⟩
    refine ⟨_, rfl, ?_⟩
    have HO383 := rl_ w ho0
    replace BK378 := bb_ BK378 hb
    replace BK379 := bb_ BK379 hb
    replace HB := b1_ hb
    clear hb ho0
    refine hK.out _ _ ⟨cz0_ BK378, cz1_ BK378⟩ (fun hHeld => ?_)
    clear hK K
    refine no_ (some 10) ?_
    refine on_ 5 (some 13) (bl_ 9 63) HT_ (fun K hK => ?_)
    refine gO_ Try.func69 #[.slice A0_0 l0_0.length c0_0] (by rfl) rfl rfl qa_ ?_
    with_reducible refine (impl_InversePerm.calls k _ _ l0_0 t384 _ (cb_ HR0_0) HC0_0.out A5.out).mono ?_
    rintro e w13 ⟨v385, rfl, ho0, hb⟩
    refine ⟨_, rfl, ?_⟩
    have HO386 := Aside0.mk (Kd.R_lower (Kd.R_new' ho0 (Kd.R_lt (rr_ HO383))) (below_size hB_))
    replace HO383 := Aside0.mk (Kd.R_elder' (rr_ HO383) (Kd.R_base ho0) hb)
    replace BK378 := bb_ BK378 hb
    replace BK379 := bb_ BK379 hb
    replace HB := b1_ hb
    clear hb ho0
    obtain ⟨Ao14, co14, eo14⟩ := Kd.R_slice HO386.out
    (first | subst eo14 | (injection eo14 with f1_ f2_ f3_; have f4_ := f1_.symm; have f5_ := f3_.symm; clear f1_ f2_ f3_; subst f4_; subst f5_))
    obtain ⟨Ao15, co15, eo15⟩ := Kd.R_slice HO383.out
    (first | subst eo15 | (injection eo15 with f1_ f2_ f3_; have f4_ := f1_.symm; have f5_ := f3_.symm; clear f1_ f2_ f3_; subst f4_; subst f5_))
    refine hK.out _ _ ⟨cz0_ BK378, cz1_ BK378⟩ (fun hHeld => ?_)
    clear hK K
    refine no_ (some 13) ?_
    refine pu_ 6 (some 14) (bl_ 9 127) HT_ ?_
    refine on_ 7 (none) (bl_ 9 255) HT_ (fun K hK => ?_)
    have hs16 : w13.cell? ⟨gb379, 0, none⟩ = some (.slice none 0 0) := cz0_ BK379
    have hfs16 := blk_frozen BK379.out 0
    have hns16_0 := NB378_379.out
    have hms16_0 := NB379_378.out
    have hs17 : w13.cell? ⟨gb379, 1, none⟩ = some (.slice none 0 0) := cz1_ BK379
    have hfs17 := blk_frozen BK379.out 1
    have hns17_0 := NB378_379.out
    have hms17_0 := NB379_378.out
    refine skip_ (w1 := ?_) (by rfl) rfl ?_ ?_
    rotate_left
    · go_simp
      rfl
    refine hK.out _ _ ⟨((cell_far (p := ⟨gb379, _, none⟩) NB378_379.out _).trans (((cell_far (p := ⟨gb379, _, none⟩) NB378_379.out _).trans (hHeld.1)))), ((cell_far (p := ⟨gb379, _, none⟩) NB378_379.out _).trans (((cell_far (p := ⟨gb379, _, none⟩) NB378_379.out _).trans (hHeld.2))))⟩ (fun hHeld => ?_)
    clear hK K
    refine pu_ 8 (some 3) (bl_ 9 511) HT_ ?_
    refine done_ (done_of HT_.out (by kernel_rfl)) ?_
    try go_wp2
    refine bodyPost_ret (results_ct rfl _ _ gb379 25 #[.slice Ao15 t381.length co15, .slice Ao14 t384.length co14] (0, 0) _ rfl qp_ Try.underlying25 rfl (by kernel_rfl)) rfl ?_
    exact ⟨_, _, qb_, (rw_ (Kd.R_mono (fa_ HO383 BK379) (fun _ hk => hk.2))), (rw_ (Kd.R_mono (fa_ HO386 BK379) (fun _ hk => hk.2))), hB_⟩
  · replace c3 := Bool.eq_false_iff.mpr c3
    subst c3
    have H1 : (some (([] : List Int), ([] : List Int), false)) = some (r1, r2, r3) := by rw [if_neg (show ¬ (false = true) by decide)] at H; exact H
    clear H
    have H := H1
    clear H1
    simp only [Option.some.injEq, Prod.mk.injEq] at H
    obtain ⟨rfl, rfl, rfl⟩ := H
    go_enter Try.func101, Try.ntmps101
    go_wp2_with (first | ((with_reducible refine gate_dst (N := 1) rfl ?_); refine bx_ 1 #[.slice A0_0 l0_0.length c0_0, .slice A0_1 l0_1.length c0_1] 25 ?_; intro gb378 hg w18 hbox hb; have BK378 := Aside0.mk hbox; have GW378 := gw_ w hg; have GE378 := GW378; replace HB := b1_ hb; clear hb hbox hg) | ((with_reducible refine gate_dst (N := 2) rfl ?_); refine bx_ 2 #[.slice none 0 0, .slice none 0 0] 25 ?_; intro gb379 hg w19 hbox hb; have BK379 := Aside0.mk hbox; have GW379 := gw_ w hg; have GE379 := GW379; replace HB := b1_ hb; have NB378_379 := gN_ BK378 hg; have NB379_378 := gP_ BK378 hg; replace BK378 := bb_ BK378 hb; clear hb hbox hg; have hnb20 := NB378_379.out; have hnc20 := NB379_378.out; obtain ⟨hcz21_0, hcz21_1, hfz21_0, hfz21_1⟩ := c2_ BK378) | ((with_reducible refine gate_callee (f := 66) rfl ?_); refine gL_ (some 5) Try.func66 #[.agg #[.slice A0_0 l0_0.length c0_0, .slice A0_1 l0_1.length c0_1]] rfl qa_ ?_; (with_reducible refine (impl_SurfaceOk.calls k _ _ l0_0 _ _ l0_1 false _ (cb_ HR0_0) HC0_0.out (cb_ HR0_1) HC0_1.out A2.out).mono ?_); rintro e w22 ⟨rfl, hb⟩; refine ⟨_, rfl, ?_⟩; replace BK378 := bb_ BK378 hb; replace BK379 := bb_ BK379 hb; replace HB := b1_ hb; clear hb; obtain ⟨hcz23_0, hcz23_1, hfz23_0, hfz23_1⟩ := c2_ BK379))
    refine bodyPost_ret (results_ct rfl _ _ gb379 25 #[.slice none 0 0, .slice none 0 0] (0, 0) _ rfl qp_ Try.underlying25 rfl (by kernel_rfl)) rfl ?_
    exact ⟨_, _, qb_, by first | exact Kd.R_nil _ _ _ _ _ | exact Kd.N_nil _ _ _ _ _ | exact Kd.V_nil _ _ _ _ _ | exact Kd.Q_nil _ _ _ _ _ | exact Kd.S_nil _ _ _ _ _, by first | exact Kd.R_nil _ _ _ _ _ | exact Kd.N_nil _ _ _ _ _ | exact Kd.V_nil _ _ _ _ _ | exact Kd.Q_nil _ _ _ _ _ | exact Kd.S_nil _ _ _ _ _, hB_⟩
end Go.Proofs.Ytcggfjpnfodbaaa.A
end
section
namespace Go.Proofs.Ytcggfjpnfodbaaa.A
open Go.RowKit Go.Proofs.YtcggfjpnfodbaaaW.PrintWords Go.Proofs.YtcggfjpnfodbaaaW.PrintLast Go.Proofs.YtcggfjpnfodbaaaW.PrintMore
attribute [local go_sem] max2_int min2_int max_two min_two max_three min_three max_four min_four
set_option linter.unusedVariables false
set_option linter.unusedSimpArgs false
def impl_letterSurface.f (k : Nat) (l0_0 : List Int) (l0_1 : List Int) (a1 : Int) : Option (List Int × List Int) := if a1 = 84 then ((impl_ShearSurface.f k l0_0 l0_1).bind fun bt390 => (some (bt390.1, bt390.2.1))) else (if a1 = 116 then ((impl_UnshearSurface.f k l0_0 l0_1).bind fun bt397 => (some (bt397.1, bt397.2.1))) else (if a1 = 83 then ((impl_TurnSurface.f k l0_0 l0_1).bind fun bt404 => (some (bt404.1, bt404.2.1))) else (if a1 = 115 then ((impl_UnturnSurface.f k l0_0 l0_1).bind fun bt411 => (some (bt411.1, bt411.2.1))) else (some (([] : List Int), ([] : List Int))))))
theorem impl_letterSurface.mono : ∀ a0 a1 a2 k, LeO (impl_letterSurface.f k a0 a1 a2) (impl_letterSurface.f (k + 1) a0 a1 a2) := by
  intro a0 a1 a2 k
  unfold impl_letterSurface.f
  repeat' first|exact impl_ShearSurface.mono _ _ _|exact impl_TurnSurface.mono _ _ _|exact impl_UnshearSurface.mono _ _ _|exact impl_UnturnSurface.mono _ _ _|exact lo_|refine LeO.ite ?_ ?_|refine LeO.bind ?_ (fun _ => ?_)
set_option maxHeartbeats 8000000 in
set_option maxRecDepth 100000 in
theorem impl_letterSurface.calls (k : Nat) (A0_0 : Option Addr) (c0_0 : Nat) (l0_0 : List Int) (A0_1 : Option Addr) (c0_1 : Nat) (l0_1 : List Int) (a1 : Int) (r1 : List Int) (r2 : List Int) (w : World) (hr0_0 : Kd.C (Kd.int .i64) w A0_0 l0_0.length l0_0) (hc0_0 : l0_0.length ≤ c0_0) (hr0_1 : Kd.C (Kd.int .i64) w A0_1 l0_1.length l0_1) (hc0_1 : l0_1.length ≤ c0_1) (h : impl_letterSurface.f k l0_0 l0_1 a1 = some (r1, r2)) :
    Calls Try.prog 63 #[.agg #[.slice A0_0 l0_0.length c0_0, .slice A0_1 l0_1.length c0_1], .int .u8 a1] w fun e w' => ∃ v0_ v1_ : Value, e = .returned (.agg #[v0_, v1_]) ∧ Kd.R (Kd.int .i64) 3 w' w.heap.size (fun k_ => some k_ ≠ (v1_ : Value).ownBlock) v0_ r1 ∧ Kd.R (Kd.int .i64) 3 w' w.heap.size (fun k_ => some k_ ≠ (v0_ : Value).ownBlock) v1_ r2 ∧ Below w.heap.size w w' := by
  have hu25 := Try.underlying25
  have HR0_0 := Aside0.mk hr0_0
  have HC0_0 := Aside0.mk hc0_0
  clear hr0_0 hc0_0
  have HR0_1 := Aside0.mk hr0_1
  have HC0_1 := Aside0.mk hc0_1
  clear hr0_1 hc0_1
  have HB := Aside0.mk (Below.refl w.heap.size w)
  have H := h
  unfold impl_letterSurface.f at H
  clear h
  by_cases c3 : a1 = 84
  · rw [if_pos c3] at H
    have c3b0 : (a1 == 84) = true := beq_iff_eq.mpr c3
    have c3b1 : (a1 != 84) = false := bne_eq_false_iff_eq.mpr c3
    clear c3
    obtain ⟨⟨t390, t393, t396⟩, A4, H⟩ := bi_ H
    try dsimp only at H
    simp only [Option.some.injEq, Prod.mk.injEq] at H
    obtain ⟨rfl, rfl⟩ := H
    go_enter Try.func63, Try.ntmps63
    go_wp2_with (first | ((with_reducible refine gate_dst (N := 2) rfl ?_); refine bx_ 2 #[.slice A0_0 l0_0.length c0_0, .slice A0_1 l0_1.length c0_1] 25 ?_; intro gb387 hg w5 hbox hb; have BK387 := Aside0.mk hbox; have GW387 := gw_ w hg; have GE387 := GW387; replace HB := b1_ hb; clear hb hbox hg) | ((with_reducible refine gate_dst (N := 4) rfl ?_); refine bx_ 4 #[.slice none 0 0, .slice none 0 0] 25 ?_; intro gb388 hg w6 hbox hb; have BK388 := Aside0.mk hbox; have GW388 := gw_ w hg; have GE388 := GW388; replace HB := b1_ hb; have NB387_388 := gN_ BK387 hg; have NB388_387 := gP_ BK387 hg; replace BK387 := bb_ BK387 hb; clear hb hbox hg) | ((with_reducible refine gate_dst (N := 5) rfl ?_); refine bx_ 5 #[.slice none 0 0, .slice none 0 0] 25 ?_; intro gb389 hg w7 hbox hb; have BK389 := Aside0.mk hbox; have GW389 := gw_ w hg; have GE389 := GW389; replace HB := b1_ hb; have NB387_389 := gN_ BK387 hg; have NB389_387 := gP_ BK387 hg; replace BK387 := bb_ BK387 hb; have NB388_389 := gN_ BK388 hg; have NB389_388 := gP_ BK388 hg; replace BK388 := bb_ BK388 hb; clear hb hbox hg; have hnb8 := NB389_387.out; have hnc8 := NB387_389.out; have hnb9 := NB389_388.out; have hnc9 := NB388_389.out; obtain ⟨hcz10_0, hcz10_1, hfz10_0, hfz10_1⟩ := c2_ BK389; have hnb11 := NB387_388.out; have hnc11 := NB388_387.out; obtain ⟨hcz12_0, hcz12_1, hfz12_0, hfz12_1⟩ := c2_ BK387) | ((with_reducible refine gate_callee (f := 22) rfl ?_); refine gL_ (some 12) Try.func22 #[.agg #[.slice A0_0 l0_0.length c0_0, .slice A0_1 l0_1.length c0_1]] rfl qa_ ?_; (with_reducible refine (impl_ShearSurface.calls k _ _ l0_0 _ _ l0_1 t390 t393 t396 _ (Kd.C_below HR0_0.out hB_) HC0_0.out (Kd.C_below HR0_1.out hB_) HC0_1.out A4.out).mono ?_); rintro e w13 ⟨v391, v394, rfl, ho0, ho1, hb⟩; refine ⟨_, rfl, ?_⟩; have HO392 := rl_ w ho0; have HO395 := rl_ w ho1; replace BK387 := Aside0.mk (blk_below (g := gb387) (o := .cells #[.slice A0_0 l0_0.length c0_0, .slice A0_1 l0_1.length c0_1] 25 (0, 0)) (by (with_reducible repeat (first | refine blk_drewN ?_ _ | refine blk_drew ?_ | refine blk_alloc ?_ _)); refine blk_far ?_ NB387_389.out _; (with_reducible repeat (first | refine blk_drewN ?_ _ | refine blk_drew ?_ | refine blk_alloc ?_ _)); refine blk_far ?_ NB387_389.out _; (with_reducible repeat (first | refine blk_drewN ?_ _ | refine blk_drew ?_ | refine blk_alloc ?_ _)); exact BK387.out) hb); replace BK388 := Aside0.mk (blk_below (g := gb388) (o := .cells #[.slice none 0 0, .slice none 0 0] 25 (0, 0)) (by (with_reducible repeat (first | refine blk_drewN ?_ _ | refine blk_drew ?_ | refine blk_alloc ?_ _)); refine blk_far ?_ NB388_389.out _; (with_reducible repeat (first | refine blk_drewN ?_ _ | refine blk_drew ?_ | refine blk_alloc ?_ _)); refine blk_far ?_ NB388_389.out _; (with_reducible repeat (first | refine blk_drewN ?_ _ | refine blk_drew ?_ | refine blk_alloc ?_ _)); exact BK388.out) hb); replace BK389 := Aside0.mk (blk_below (g := gb389) (o := .cells #[.slice none 0 0, .slice none 0 0] 25 (0, 0)) qp_ hb); replace HB := b1_ hb; clear hb ho0 ho1; obtain ⟨Ao14, co14, eo14⟩ := Kd.R_slice HO392.out; subst eo14; obtain ⟨hcz15_0, hcz15_1, hfz15_0, hfz15_1⟩ := c2_ BK389; obtain ⟨Ao16, co16, eo16⟩ := Kd.R_slice HO395.out; subst eo16; obtain ⟨hcz17_0, hcz17_1, hfz17_0, hfz17_1⟩ := c2_ BK388))
    refine bodyPost_ret (results_cell_row rfl _ _ gb388 25 #[.slice Ao14 t390.length co14, .slice Ao16 t393.length co16] (0, 0) _ rfl (by (with_reducible repeat (first | refine blk_drewN ?_ _ | refine blk_drew ?_ | refine blk_alloc ?_ _)); refine blk_put (cs := #[.slice Ao14 t390.length co14, .slice none 0 0]) ?_ 1 _ rfl; (with_reducible repeat (first | refine blk_drewN ?_ _ | refine blk_drew ?_ | refine blk_alloc ?_ _)); refine blk_put (cs := #[.slice none 0 0, .slice none 0 0]) ?_ 0 _ rfl; (with_reducible repeat (first | refine blk_drewN ?_ _ | refine blk_drew ?_ | refine blk_alloc ?_ _)); refine blk_far ?_ NB388_389.out _; (with_reducible repeat (first | refine blk_drewN ?_ _ | refine blk_drew ?_ | refine blk_alloc ?_ _)); refine blk_far ?_ NB388_389.out _; (with_reducible repeat (first | refine blk_drewN ?_ _ | refine blk_drew ?_ | refine blk_alloc ?_ _)); exact BK388.out) Try.underlying25 rfl (by kernel_rfl)) rfl ?_
    exact ⟨_, _, qb_, (rw_ (Kd.R_mono (Kd.R_far (p := ⟨gb388, 1, none⟩) (Kd.R_far (p := ⟨gb388, 0, none⟩) (Kd.R_far (p := ⟨gb389, 1, none⟩) (Kd.R_far (p := ⟨gb389, 0, none⟩) (Kd.R_types (Kd.R_types HO392.out BK389.out (by decide)) BK388.out (by decide)) (fun _ hk => hk.1.2) (.slice Ao14 t390.length co14)) (fun _ hk => hk.1.2) (.slice Ao16 t393.length co16)) (fun _ hk => hk.2) (.slice Ao14 t390.length co14)) (fun _ hk => hk.2) (.slice Ao16 t393.length co16)) (fun _ hk => hk.1.1))), (rw_ (Kd.R_mono (Kd.R_far (p := ⟨gb388, 1, none⟩) (Kd.R_far (p := ⟨gb388, 0, none⟩) (Kd.R_far (p := ⟨gb389, 1, none⟩) (Kd.R_far (p := ⟨gb389, 0, none⟩) (Kd.R_types (Kd.R_types HO395.out BK389.out (by decide)) BK388.out (by decide)) (fun _ hk => hk.1.2) (.slice Ao14 t390.length co14)) (fun _ hk => hk.1.2) (.slice Ao16 t393.length co16)) (fun _ hk => hk.2) (.slice Ao14 t390.length co14)) (fun _ hk => hk.2) (.slice Ao16 t393.length co16)) (fun _ hk => hk.1.1))), hB_⟩
  · rw [if_neg c3] at H
    have c3b0 : (a1 == 84) = false := beq_eq_false_iff_ne.mpr c3
    have c3b1 : (a1 != 84) = true := bne_iff_ne.mpr c3
    by_cases c18 : a1 = 116
    · rw [if_pos c18] at H
      have c18b0 : (a1 == 116) = true := beq_iff_eq.mpr c18
      have c18b1 : (a1 != 116) = false := bne_eq_false_iff_eq.mpr c18
      clear c18
      obtain ⟨⟨t397, t400, t403⟩, A19, H⟩ := bi_ H
      try dsimp only at H
      simp only [Option.some.injEq, Prod.mk.injEq] at H
      obtain ⟨rfl, rfl⟩ := H
      go_enter Try.func63, Try.ntmps63
      go_wp2_with (first | ((with_reducible refine gate_dst (N := 2) rfl ?_); refine bx_ 2 #[.slice A0_0 l0_0.length c0_0, .slice A0_1 l0_1.length c0_1] 25 ?_; intro gb387 hg w20 hbox hb; have BK387 := Aside0.mk hbox; have GW387 := gw_ w hg; have GE387 := GW387; replace HB := b1_ hb; clear hb hbox hg) | ((with_reducible refine gate_dst (N := 4) rfl ?_); refine bx_ 4 #[.slice none 0 0, .slice none 0 0] 25 ?_; intro gb388 hg w21 hbox hb; have BK388 := Aside0.mk hbox; have GW388 := gw_ w hg; have GE388 := GW388; replace HB := b1_ hb; have NB387_388 := gN_ BK387 hg; have NB388_387 := gP_ BK387 hg; replace BK387 := bb_ BK387 hb; clear hb hbox hg) | ((with_reducible refine gate_dst (N := 5) rfl ?_); refine bx_ 5 #[.slice none 0 0, .slice none 0 0] 25 ?_; intro gb389 hg w22 hbox hb; have BK389 := Aside0.mk hbox; have GW389 := gw_ w hg; have GE389 := GW389; replace HB := b1_ hb; have NB387_389 := gN_ BK387 hg; have NB389_387 := gP_ BK387 hg; replace BK387 := bb_ BK387 hb; have NB388_389 := gN_ BK388 hg; have NB389_388 := gP_ BK388 hg; replace BK388 := bb_ BK388 hb; clear hb hbox hg; have hnb23 := NB389_387.out; have hnc23 := NB387_389.out; have hnb24 := NB389_388.out; have hnc24 := NB388_389.out; obtain ⟨hcz25_0, hcz25_1, hfz25_0, hfz25_1⟩ := c2_ BK389; have hnb26 := NB387_388.out; have hnc26 := NB388_387.out; obtain ⟨hcz27_0, hcz27_1, hfz27_0, hfz27_1⟩ := c2_ BK387) | ((with_reducible refine gate_callee (f := 99) rfl ?_); refine gL_ (some 19) Try.func99 #[.agg #[.slice A0_0 l0_0.length c0_0, .slice A0_1 l0_1.length c0_1]] rfl qa_ ?_; (with_reducible refine (impl_UnshearSurface.calls k _ _ l0_0 _ _ l0_1 t397 t400 t403 _ (Kd.C_below HR0_0.out hB_) HC0_0.out (Kd.C_below HR0_1.out hB_) HC0_1.out A19.out).mono ?_); rintro e w28 ⟨v398, v401, rfl, ho0, ho1, hb⟩; refine ⟨_, rfl, ?_⟩; have HO399 := rl_ w ho0; have HO402 := rl_ w ho1; replace BK387 := Aside0.mk (blk_below (g := gb387) (o := .cells #[.slice A0_0 l0_0.length c0_0, .slice A0_1 l0_1.length c0_1] 25 (0, 0)) (by (with_reducible repeat (first | refine blk_drewN ?_ _ | refine blk_drew ?_ | refine blk_alloc ?_ _)); refine blk_far ?_ NB387_389.out _; (with_reducible repeat (first | refine blk_drewN ?_ _ | refine blk_drew ?_ | refine blk_alloc ?_ _)); refine blk_far ?_ NB387_389.out _; (with_reducible repeat (first | refine blk_drewN ?_ _ | refine blk_drew ?_ | refine blk_alloc ?_ _)); exact BK387.out) hb); replace BK388 := Aside0.mk (blk_below (g := gb388) (o := .cells #[.slice none 0 0, .slice none 0 0] 25 (0, 0)) (by (with_reducible repeat (first | refine blk_drewN ?_ _ | refine blk_drew ?_ | refine blk_alloc ?_ _)); refine blk_far ?_ NB388_389.out _; (with_reducible repeat (first | refine blk_drewN ?_ _ | refine blk_drew ?_ | refine blk_alloc ?_ _)); refine blk_far ?_ NB388_389.out _; (with_reducible repeat (first | refine blk_drewN ?_ _ | refine blk_drew ?_ | refine blk_alloc ?_ _)); exact BK388.out) hb); replace BK389 := Aside0.mk (blk_below (g := gb389) (o := .cells #[.slice none 0 0, .slice none 0 0] 25 (0, 0)) qp_ hb); replace HB := b1_ hb; clear hb ho0 ho1; obtain ⟨Ao29, co29, eo29⟩ := Kd.R_slice HO399.out; subst eo29; obtain ⟨hcz30_0, hcz30_1, hfz30_0, hfz30_1⟩ := c2_ BK389; obtain ⟨Ao31, co31, eo31⟩ := Kd.R_slice HO402.out; subst eo31; obtain ⟨hcz32_0, hcz32_1, hfz32_0, hfz32_1⟩ := c2_ BK388))
      refine bodyPost_ret (results_cell_row rfl _ _ gb388 25 #[.slice Ao29 t397.length co29, .slice Ao31 t400.length co31] (0, 0) _ rfl (by (with_reducible repeat (first | refine blk_drewN ?_ _ | refine blk_drew ?_ | refine blk_alloc ?_ _)); refine blk_put (cs := #[.slice Ao29 t397.length co29, .slice none 0 0]) ?_ 1 _ rfl; (with_reducible repeat (first | refine blk_drewN ?_ _ | refine blk_drew ?_ | refine blk_alloc ?_ _)); refine blk_put (cs := #[.slice none 0 0, .slice none 0 0]) ?_ 0 _ rfl; (with_reducible repeat (first | refine blk_drewN ?_ _ | refine blk_drew ?_ | refine blk_alloc ?_ _)); refine blk_far ?_ NB388_389.out _; (with_reducible repeat (first | refine blk_drewN ?_ _ | refine blk_drew ?_ | refine blk_alloc ?_ _)); refine blk_far ?_ NB388_389.out _; (with_reducible repeat (first | refine blk_drewN ?_ _ | refine blk_drew ?_ | refine blk_alloc ?_ _)); exact BK388.out) Try.underlying25 rfl (by kernel_rfl)) rfl ?_
      exact ⟨_, _, qb_, (rw_ (Kd.R_mono (Kd.R_far (p := ⟨gb388, 1, none⟩) (Kd.R_far (p := ⟨gb388, 0, none⟩) (Kd.R_far (p := ⟨gb389, 1, none⟩) (Kd.R_far (p := ⟨gb389, 0, none⟩) (Kd.R_types (Kd.R_types HO399.out BK389.out (by decide)) BK388.out (by decide)) (fun _ hk => hk.1.2) (.slice Ao29 t397.length co29)) (fun _ hk => hk.1.2) (.slice Ao31 t400.length co31)) (fun _ hk => hk.2) (.slice Ao29 t397.length co29)) (fun _ hk => hk.2) (.slice Ao31 t400.length co31)) (fun _ hk => hk.1.1))), (rw_ (Kd.R_mono (Kd.R_far (p := ⟨gb388, 1, none⟩) (Kd.R_far (p := ⟨gb388, 0, none⟩) (Kd.R_far (p := ⟨gb389, 1, none⟩) (Kd.R_far (p := ⟨gb389, 0, none⟩) (Kd.R_types (Kd.R_types HO402.out BK389.out (by decide)) BK388.out (by decide)) (fun _ hk => hk.1.2) (.slice Ao29 t397.length co29)) (fun _ hk => hk.1.2) (.slice Ao31 t400.length co31)) (fun _ hk => hk.2) (.slice Ao29 t397.length co29)) (fun _ hk => hk.2) (.slice Ao31 t400.length co31)) (fun _ hk => hk.1.1))), hB_⟩
    · rw [if_neg c18] at H
      have c18b0 : (a1 == 116) = false := beq_eq_false_iff_ne.mpr c18
      have c18b1 : (a1 != 116) = true := bne_iff_ne.mpr c18
      by_cases c33 : a1 = 83
      · rw [if_pos c33] at H
        have c33b0 : (a1 == 83) = true := beq_iff_eq.mpr c33
        have c33b1 : (a1 != 83) = false := bne_eq_false_iff_eq.mpr c33
        clear c33
        obtain ⟨⟨t404, t407, t410⟩, A34, H⟩ := bi_ H
        try dsimp only at H
        simp only [Option.some.injEq, Prod.mk.injEq] at H
        obtain ⟨rfl, rfl⟩ := H
        go_enter Try.func63, Try.ntmps63
        go_wp2_with (first | ((with_reducible refine gate_dst (N := 2) rfl ?_); refine bx_ 2 #[.slice A0_0 l0_0.length c0_0, .slice A0_1 l0_1.length c0_1] 25 ?_; intro gb387 hg w35 hbox hb; have BK387 := Aside0.mk hbox; have GW387 := gw_ w hg; have GE387 := GW387; replace HB := b1_ hb; clear hb hbox hg) | ((with_reducible refine gate_dst (N := 4) rfl ?_); refine bx_ 4 #[.slice none 0 0, .slice none 0 0] 25 ?_; intro gb388 hg w36 hbox hb; have BK388 := Aside0.mk hbox; have GW388 := gw_ w hg; have GE388 := GW388; replace HB := b1_ hb; have NB387_388 := gN_ BK387 hg; have NB388_387 := gP_ BK387 hg; replace BK387 := bb_ BK387 hb; clear hb hbox hg) | ((with_reducible refine gate_dst (N := 5) rfl ?_); refine bx_ 5 #[.slice none 0 0, .slice none 0 0] 25 ?_; intro gb389 hg w37 hbox hb; have BK389 := Aside0.mk hbox; have GW389 := gw_ w hg; have GE389 := GW389; replace HB := b1_ hb; have NB387_389 := gN_ BK387 hg; have NB389_387 := gP_ BK387 hg; replace BK387 := bb_ BK387 hb; have NB388_389 := gN_ BK388 hg; have NB389_388 := gP_ BK388 hg; replace BK388 := bb_ BK388 hb; clear hb hbox hg; have hnb38 := NB389_387.out; have hnc38 := NB387_389.out; have hnb39 := NB389_388.out; have hnc39 := NB388_389.out; obtain ⟨hcz40_0, hcz40_1, hfz40_0, hfz40_1⟩ := c2_ BK389; have hnb41 := NB387_388.out; have hnc41 := NB388_387.out; obtain ⟨hcz42_0, hcz42_1, hfz42_0, hfz42_1⟩ := c2_ BK387) | ((with_reducible refine gate_callee (f := 100) rfl ?_); refine gL_ (some 26) Try.func100 #[.agg #[.slice A0_0 l0_0.length c0_0, .slice A0_1 l0_1.length c0_1]] rfl qa_ ?_; (with_reducible refine (impl_TurnSurface.calls k _ _ l0_0 _ _ l0_1 t404 t407 t410 _ (Kd.C_below HR0_0.out hB_) HC0_0.out (Kd.C_below HR0_1.out hB_) HC0_1.out A34.out).mono ?_); rintro e w43 ⟨v405, v408, rfl, ho0, ho1, hb⟩; refine ⟨_, rfl, ?_⟩; have HO406 := rl_ w ho0; have HO409 := rl_ w ho1; replace BK387 := Aside0.mk (blk_below (g := gb387) (o := .cells #[.slice A0_0 l0_0.length c0_0, .slice A0_1 l0_1.length c0_1] 25 (0, 0)) (by (with_reducible repeat (first | refine blk_drewN ?_ _ | refine blk_drew ?_ | refine blk_alloc ?_ _)); refine blk_far ?_ NB387_389.out _; (with_reducible repeat (first | refine blk_drewN ?_ _ | refine blk_drew ?_ | refine blk_alloc ?_ _)); refine blk_far ?_ NB387_389.out _; (with_reducible repeat (first | refine blk_drewN ?_ _ | refine blk_drew ?_ | refine blk_alloc ?_ _)); exact BK387.out) hb); replace BK388 := Aside0.mk (blk_below (g := gb388) (o := .cells #[.slice none 0 0, .slice none 0 0] 25 (0, 0)) (by (with_reducible repeat (first | refine blk_drewN ?_ _ | refine blk_drew ?_ | refine blk_alloc ?_ _)); refine blk_far ?_ NB388_389.out _; (with_reducible repeat (first | refine blk_drewN ?_ _ | refine blk_drew ?_ | refine blk_alloc ?_ _)); refine blk_far ?_ NB388_389.out _; (with_reducible repeat (first | refine blk_drewN ?_ _ | refine blk_drew ?_ | refine blk_alloc ?_ _)); exact BK388.out) hb); replace BK389 := Aside0.mk (blk_below (g := gb389) (o := .cells #[.slice none 0 0, .slice none 0 0] 25 (0, 0)) qp_ hb); replace HB := b1_ hb; clear hb ho0 ho1; obtain ⟨Ao44, co44, eo44⟩ := Kd.R_slice HO406.out; subst eo44; obtain ⟨hcz45_0, hcz45_1, hfz45_0, hfz45_1⟩ := c2_ BK389; obtain ⟨Ao46, co46, eo46⟩ := Kd.R_slice HO409.out; subst eo46; obtain ⟨hcz47_0, hcz47_1, hfz47_0, hfz47_1⟩ := c2_ BK388))
        refine bodyPost_ret (results_cell_row rfl _ _ gb388 25 #[.slice Ao44 t404.length co44, .slice Ao46 t407.length co46] (0, 0) _ rfl (by (with_reducible repeat (first | refine blk_drewN ?_ _ | refine blk_drew ?_ | refine blk_alloc ?_ _)); refine blk_put (cs := #[.slice Ao44 t404.length co44, .slice none 0 0]) ?_ 1 _ rfl; (with_reducible repeat (first | refine blk_drewN ?_ _ | refine blk_drew ?_ | refine blk_alloc ?_ _)); refine blk_put (cs := #[.slice none 0 0, .slice none 0 0]) ?_ 0 _ rfl; (with_reducible repeat (first | refine blk_drewN ?_ _ | refine blk_drew ?_ | refine blk_alloc ?_ _)); refine blk_far ?_ NB388_389.out _; (with_reducible repeat (first | refine blk_drewN ?_ _ | refine blk_drew ?_ | refine blk_alloc ?_ _)); refine blk_far ?_ NB388_389.out _; (with_reducible repeat (first | refine blk_drewN ?_ _ | refine blk_drew ?_ | refine blk_alloc ?_ _)); exact BK388.out) Try.underlying25 rfl (by kernel_rfl)) rfl ?_
        exact ⟨_, _, qb_, (rw_ (Kd.R_mono (Kd.R_far (p := ⟨gb388, 1, none⟩) (Kd.R_far (p := ⟨gb388, 0, none⟩) (Kd.R_far (p := ⟨gb389, 1, none⟩) (Kd.R_far (p := ⟨gb389, 0, none⟩) (Kd.R_types (Kd.R_types HO406.out BK389.out (by decide)) BK388.out (by decide)) (fun _ hk => hk.1.2) (.slice Ao44 t404.length co44)) (fun _ hk => hk.1.2) (.slice Ao46 t407.length co46)) (fun _ hk => hk.2) (.slice Ao44 t404.length co44)) (fun _ hk => hk.2) (.slice Ao46 t407.length co46)) (fun _ hk => hk.1.1))), (rw_ (Kd.R_mono (Kd.R_far (p := ⟨gb388, 1, none⟩) (Kd.R_far (p := ⟨gb388, 0, none⟩) (Kd.R_far (p := ⟨gb389, 1, none⟩) (Kd.R_far (p := ⟨gb389, 0, none⟩) (Kd.R_types (Kd.R_types HO409.out BK389.out (by decide)) BK388.out (by decide)) (fun _ hk => hk.1.2) (.slice Ao44 t404.length co44)) (fun _ hk => hk.1.2) (.slice Ao46 t407.length co46)) (fun _ hk => hk.2) (.slice Ao44 t404.length co44)) (fun _ hk => hk.2) (.slice Ao46 t407.length co46)) (fun _ hk => hk.1.1))), hB_⟩
      · rw [if_neg c33] at H
        have c33b0 : (a1 == 83) = false := beq_eq_false_iff_ne.mpr c33
        have c33b1 : (a1 != 83) = true := bne_iff_ne.mpr c33
        by_cases c48 : a1 = 115
        · rw [if_pos c48] at H
          have c48b0 : (a1 == 115) = true := beq_iff_eq.mpr c48
          have c48b1 : (a1 != 115) = false := bne_eq_false_iff_eq.mpr c48
          clear c48
          obtain ⟨⟨t411, t414, t417⟩, A49, H⟩ := bi_ H
          try dsimp only at H
          simp only [Option.some.injEq, Prod.mk.injEq] at H
          obtain ⟨rfl, rfl⟩ := H
          go_enter Try.func63, Try.ntmps63
          go_wp2_with (first | ((with_reducible refine gate_dst (N := 2) rfl ?_); refine bx_ 2 #[.slice A0_0 l0_0.length c0_0, .slice A0_1 l0_1.length c0_1] 25 ?_; intro gb387 hg w50 hbox hb; have BK387 := Aside0.mk hbox; have GW387 := gw_ w hg; have GE387 := GW387; replace HB := b1_ hb; clear hb hbox hg) | ((with_reducible refine gate_dst (N := 4) rfl ?_); refine bx_ 4 #[.slice none 0 0, .slice none 0 0] 25 ?_; intro gb388 hg w51 hbox hb; have BK388 := Aside0.mk hbox; have GW388 := gw_ w hg; have GE388 := GW388; replace HB := b1_ hb; have NB387_388 := gN_ BK387 hg; have NB388_387 := gP_ BK387 hg; replace BK387 := bb_ BK387 hb; clear hb hbox hg) | ((with_reducible refine gate_dst (N := 5) rfl ?_); refine bx_ 5 #[.slice none 0 0, .slice none 0 0] 25 ?_; intro gb389 hg w52 hbox hb; have BK389 := Aside0.mk hbox; have GW389 := gw_ w hg; have GE389 := GW389; replace HB := b1_ hb; have NB387_389 := gN_ BK387 hg; have NB389_387 := gP_ BK387 hg; replace BK387 := bb_ BK387 hb; have NB388_389 := gN_ BK388 hg; have NB389_388 := gP_ BK388 hg; replace BK388 := bb_ BK388 hb; clear hb hbox hg; have hnb53 := NB389_387.out; have hnc53 := NB387_389.out; have hnb54 := NB389_388.out; have hnc54 := NB388_389.out; obtain ⟨hcz55_0, hcz55_1, hfz55_0, hfz55_1⟩ := c2_ BK389; have hnb56 := NB387_388.out; have hnc56 := NB388_387.out; obtain ⟨hcz57_0, hcz57_1, hfz57_0, hfz57_1⟩ := c2_ BK387) | ((with_reducible refine gate_callee (f := 101) rfl ?_); refine gL_ (some 33) Try.func101 #[.agg #[.slice A0_0 l0_0.length c0_0, .slice A0_1 l0_1.length c0_1]] rfl qa_ ?_; (with_reducible refine (impl_UnturnSurface.calls k _ _ l0_0 _ _ l0_1 t411 t414 t417 _ (Kd.C_below HR0_0.out hB_) HC0_0.out (Kd.C_below HR0_1.out hB_) HC0_1.out A49.out).mono ?_); rintro e w58 ⟨v412, v415, rfl, ho0, ho1, hb⟩; refine ⟨_, rfl, ?_⟩; have HO413 := rl_ w ho0; have HO416 := rl_ w ho1; replace BK387 := Aside0.mk (blk_below (g := gb387) (o := .cells #[.slice A0_0 l0_0.length c0_0, .slice A0_1 l0_1.length c0_1] 25 (0, 0)) (by (with_reducible repeat (first | refine blk_drewN ?_ _ | refine blk_drew ?_ | refine blk_alloc ?_ _)); refine blk_far ?_ NB387_389.out _; (with_reducible repeat (first | refine blk_drewN ?_ _ | refine blk_drew ?_ | refine blk_alloc ?_ _)); refine blk_far ?_ NB387_389.out _; (with_reducible repeat (first | refine blk_drewN ?_ _ | refine blk_drew ?_ | refine blk_alloc ?_ _)); exact BK387.out) hb); replace BK388 := Aside0.mk (blk_below (g := gb388) (o := .cells #[.slice none 0 0, .slice none 0 0] 25 (0, 0)) (by (with_reducible repeat (first | refine blk_drewN ?_ _ | refine blk_drew ?_ | refine blk_alloc ?_ _)); refine blk_far ?_ NB388_389.out _; (with_reducible repeat (first | refine blk_drewN ?_ _ | refine blk_drew ?_ | refine blk_alloc ?_ _)); refine blk_far ?_ NB388_389.out _; (with_reducible repeat (first | refine blk_drewN ?_ _ | refine blk_drew ?_ | refine blk_alloc ?_ _)); exact BK388.out) hb); replace BK389 := Aside0.mk (blk_below (g := gb389) (o := .cells #[.slice none 0 0, .slice none 0 0] 25 (0, 0)) qp_ hb); replace HB := b1_ hb; clear hb ho0 ho1; obtain ⟨Ao59, co59, eo59⟩ := Kd.R_slice HO413.out; subst eo59; obtain ⟨hcz60_0, hcz60_1, hfz60_0, hfz60_1⟩ := c2_ BK389; obtain ⟨Ao61, co61, eo61⟩ := Kd.R_slice HO416.out; subst eo61; obtain ⟨hcz62_0, hcz62_1, hfz62_0, hfz62_1⟩ := c2_ BK388))
          refine bodyPost_ret (results_cell_row rfl _ _ gb388 25 #[.slice Ao59 t411.length co59, .slice Ao61 t414.length co61] (0, 0) _ rfl (by (with_reducible repeat (first | refine blk_drewN ?_ _ | refine blk_drew ?_ | refine blk_alloc ?_ _)); refine blk_put (cs := #[.slice Ao59 t411.length co59, .slice none 0 0]) ?_ 1 _ rfl; (with_reducible repeat (first | refine blk_drewN ?_ _ | refine blk_drew ?_ | refine blk_alloc ?_ _)); refine blk_put (cs := #[.slice none 0 0, .slice none 0 0]) ?_ 0 _ rfl; (with_reducible repeat (first | refine blk_drewN ?_ _ | refine blk_drew ?_ | refine blk_alloc ?_ _)); refine blk_far ?_ NB388_389.out _; (with_reducible repeat (first | refine blk_drewN ?_ _ | refine blk_drew ?_ | refine blk_alloc ?_ _)); refine blk_far ?_ NB388_389.out _; (with_reducible repeat (first | refine blk_drewN ?_ _ | refine blk_drew ?_ | refine blk_alloc ?_ _)); exact BK388.out) Try.underlying25 rfl (by kernel_rfl)) rfl ?_
          exact ⟨_, _, qb_, (rw_ (Kd.R_mono (Kd.R_far (p := ⟨gb388, 1, none⟩) (Kd.R_far (p := ⟨gb388, 0, none⟩) (Kd.R_far (p := ⟨gb389, 1, none⟩) (Kd.R_far (p := ⟨gb389, 0, none⟩) (Kd.R_types (Kd.R_types HO413.out BK389.out (by decide)) BK388.out (by decide)) (fun _ hk => hk.1.2) (.slice Ao59 t411.length co59)) (fun _ hk => hk.1.2) (.slice Ao61 t414.length co61)) (fun _ hk => hk.2) (.slice Ao59 t411.length co59)) (fun _ hk => hk.2) (.slice Ao61 t414.length co61)) (fun _ hk => hk.1.1))), (rw_ (Kd.R_mono (Kd.R_far (p := ⟨gb388, 1, none⟩) (Kd.R_far (p := ⟨gb388, 0, none⟩) (Kd.R_far (p := ⟨gb389, 1, none⟩) (Kd.R_far (p := ⟨gb389, 0, none⟩) (Kd.R_types (Kd.R_types HO416.out BK389.out (by decide)) BK388.out (by decide)) (fun _ hk => hk.1.2) (.slice Ao59 t411.length co59)) (fun _ hk => hk.1.2) (.slice Ao61 t414.length co61)) (fun _ hk => hk.2) (.slice Ao59 t411.length co59)) (fun _ hk => hk.2) (.slice Ao61 t414.length co61)) (fun _ hk => hk.1.1))), hB_⟩
        · rw [if_neg c48] at H
          have c48b0 : (a1 == 115) = false := beq_eq_false_iff_ne.mpr c48
          have c48b1 : (a1 != 115) = true := bne_iff_ne.mpr c48
          simp only [Option.some.injEq, Prod.mk.injEq] at H
          obtain ⟨rfl, rfl⟩ := H
          go_enter Try.func63, Try.ntmps63
          go_wp2_with (first | ((with_reducible refine gate_dst (N := 2) rfl ?_); refine bx_ 2 #[.slice A0_0 l0_0.length c0_0, .slice A0_1 l0_1.length c0_1] 25 ?_; intro gb387 hg w63 hbox hb; have BK387 := Aside0.mk hbox; have GW387 := gw_ w hg; have GE387 := GW387; replace HB := b1_ hb; clear hb hbox hg) | ((with_reducible refine gate_dst (N := 4) rfl ?_); refine bx_ 4 #[.slice none 0 0, .slice none 0 0] 25 ?_; intro gb388 hg w64 hbox hb; have BK388 := Aside0.mk hbox; have GW388 := gw_ w hg; have GE388 := GW388; replace HB := b1_ hb; have NB387_388 := gN_ BK387 hg; have NB388_387 := gP_ BK387 hg; replace BK387 := bb_ BK387 hb; clear hb hbox hg) | ((with_reducible refine gate_dst (N := 5) rfl ?_); refine bx_ 5 #[.slice none 0 0, .slice none 0 0] 25 ?_; intro gb389 hg w65 hbox hb; have BK389 := Aside0.mk hbox; have GW389 := gw_ w hg; have GE389 := GW389; replace HB := b1_ hb; have NB387_389 := gN_ BK387 hg; have NB389_387 := gP_ BK387 hg; replace BK387 := bb_ BK387 hb; have NB388_389 := gN_ BK388 hg; have NB389_388 := gP_ BK388 hg; replace BK388 := bb_ BK388 hb; clear hb hbox hg; have hnb66 := NB389_387.out; have hnc66 := NB387_389.out; have hnb67 := NB389_388.out; have hnc67 := NB388_389.out; obtain ⟨hcz68_0, hcz68_1, hfz68_0, hfz68_1⟩ := c2_ BK389; have hnb69 := NB388_387.out; have hnc69 := NB387_388.out; obtain ⟨hcz70_0, hcz70_1, hfz70_0, hfz70_1⟩ := c2_ BK388))
          refine bodyPost_ret (results_cell_row rfl _ _ gb388 25 #[.slice none 0 0, .slice none 0 0] (0, 0) _ rfl (by (with_reducible repeat (first | refine blk_drewN ?_ _ | refine blk_drew ?_ | refine blk_alloc ?_ _)); refine blk_put (cs := #[.slice none 0 0, .slice none 0 0]) ?_ 1 _ rfl; (with_reducible repeat (first | refine blk_drewN ?_ _ | refine blk_drew ?_ | refine blk_alloc ?_ _)); refine blk_put (cs := #[.slice none 0 0, .slice none 0 0]) ?_ 0 _ rfl; (with_reducible repeat (first | refine blk_drewN ?_ _ | refine blk_drew ?_ | refine blk_alloc ?_ _)); refine blk_far ?_ NB388_389.out _; (with_reducible repeat (first | refine blk_drewN ?_ _ | refine blk_drew ?_ | refine blk_alloc ?_ _)); refine blk_far ?_ NB388_389.out _; (with_reducible repeat (first | refine blk_drewN ?_ _ | refine blk_drew ?_ | refine blk_alloc ?_ _)); exact BK388.out) Try.underlying25 rfl (by kernel_rfl)) rfl ?_
          exact ⟨_, _, qb_, by first | exact Kd.R_nil _ _ _ _ _ | exact Kd.N_nil _ _ _ _ _ | exact Kd.V_nil _ _ _ _ _ | exact Kd.Q_nil _ _ _ _ _ | exact Kd.S_nil _ _ _ _ _, by first | exact Kd.R_nil _ _ _ _ _ | exact Kd.N_nil _ _ _ _ _ | exact Kd.V_nil _ _ _ _ _ | exact Kd.Q_nil _ _ _ _ _ | exact Kd.S_nil _ _ _ _ _, hB_⟩
end Go.Proofs.Ytcggfjpnfodbaaa.A
end
section
/- The orbit: what finding it comes to, and how it lies in memory. No conditions. -/
namespace Go.Proofs.Ytcggfjpnfodbaaa.M
set_option linter.unusedVariables false
set_option linter.unusedSimpArgs false
open Go Go.RowKit Go.Proofs.YtcggfjpnfodbaaaW.PrintWords Go.Proofs.YtcggfjpnfodbaaaW.PrintLast Go.Proofs.YtcggfjpnfodbaaaW.PrintMore Go.Proofs.Ytcggfjpnfodbaaa.A
structure Orb where
  L : List S25
  W : List ByteArray
  F : List Int
  B : List Int
  T : List Int
  S : List Int
def stpO (k : Nat) (i c : Int) (s : Orb) : Option (Option Orb) :=
  if 0 ≤ i then (if i < (s.L.length : Int) then ((impl_letterSurface.f k (rd_T25 s.L i).f0 (rd_T25 s.L i).f1 c).bind fun x => ((impl_CanonOf.f k x.1 x.2).bind fun y => ((indexO k s.L y.1 y.2.1).bind fun j =>
    (if j < 0 then (if (s.L.length : Int) = 120 then some none else (if s.L.length < 1000000 ∧ s.W.length < 1000000 ∧ s.F.length < 1000000 ∧ s.B.length < 1000000 ∧ s.T.length < 1000000 ∧ s.S.length < 1000000 then (if i < (s.W.length : Int) then (if (rdOf ByteArray.empty s.W i).size + 1 ≤ 9223372036854775807 then
      some (some ⟨s.L ++ [⟨y.1, y.2.1⟩], s.W ++ [rdOf ByteArray.empty s.W i ++ strOfNums [c]], s.F ++ [i], s.B ++ [c], if c = 84 then s.T ++ [(s.L.length : Int)] else s.T, if c = 84 then s.S else s.S ++ [(s.L.length : Int)]⟩) else none) else none) else none))
    else (if s.T.length < 1000000 ∧ s.S.length < 1000000 then some (some ⟨s.L, s.W, s.F, s.B, if c = 84 then s.T ++ [j] else s.T, if c = 84 then s.S else s.S ++ [j]⟩) else none))))) else none) else none
def innerO (k : Nat) (i : Int) : List Int → Orb → Option (Option Orb)
  | [], s => some (some s)
  | c :: cs, s => (stpO k i c s).bind fun z => match z with | none => some none | some s' => innerO k i cs s'
def loopO : Nat → Orb → Int → Option (Option Orb)
  | 0, _, _ => none
  | k + 1, s, i => if i < (s.L.length : Int) then ((innerO k i [84, 83] s).bind fun z => match z with | none => some none | some s' => loopO k s' (wrap64 (i + 1))) else some (some s)
def orbitO (k : Nat) (r u : List Int) : Option (Option Orb) := (impl_CanonOf.f k r u).bind fun y => if y.2.2 = true then loopO k ⟨[⟨y.1, y.2.1⟩], [⟨#[]⟩], [-1], [0], [], []⟩ 0 else some none
structure OrbH (base : Nat) (col : Nat → Nat) (W : World) (gO gM n : Nat) (vL vW vF vB vT vS : Value) (s : Orb) : Prop where
  hO : W.heap[gO]? = some (.cells #[vL, vW, vF, vB, .map (some gM)] 69 (0, 0))
  hM : W.heap[gM]? = some (mapO n vT vS)
  cO : col gO = 6
  cM : col gM = 7
  bO : base ≤ gO
  bM : base ≤ gM
  nT : n = 0 → vT = .slice none 0 0
  nS : n ≤ 1 → vS = .slice none 0 0
  hL : Kd.S k25 25 W base (fun k => col k = 0) vL s.L
  hW : Kd.R Kd.string 9 W base (fun k => col k = 1) vW s.W
  hF : Kd.R (Kd.int .i64) 3 W base (fun k => col k = 2) vF s.F
  hB : Kd.R (Kd.int .u8) 5 W base (fun k => col k = 3) vB s.B
  hT : Kd.R (Kd.int .i64) 3 W base (fun k => col k = 4) vT s.T
  hS : Kd.R (Kd.int .i64) 3 W base (fun k => col k = 5) vS s.S
def rcl (n : Nat) (col : Nat → Nat) (c : Nat) : Nat → Nat := fun k => if k < n then col k else c
theorem rcl_new {n : Nat} {col : Nat → Nat} {c k : Nat} (h : n ≤ k) : rcl n col c k = c := if_neg (by omega)
theorem rcl_old {n : Nat} {col : Nat → Nat} {c k : Nat} (h : k < n) : rcl n col c k = col k := if_pos h
section
variable {α : Type} {d : Kd α} {e base c c2 : Nat} {col col' : Nat → Nat} {W w1 : World} {v : Value} {xs : List α} {row : Option Nat}
theorem R_col (h : d.R e W base (fun k => col k = c) v xs) (hc : ∀ k, k < W.heap.size → col' k = col k) : d.R e W base (fun k => col' k = c) v xs := Kd.R_mono (Kd.R_bound h) (fun k hk => (hc k hk.2.2.1).trans hk.1)
theorem S_col (h : Kd.S d e W base (fun k => col k = c) v xs) (hc : ∀ k, k < W.heap.size → col' k = col k) : Kd.S d e W base (fun k => col' k = c) v xs := Kd.S_mono (Kd.S_bound h) (fun k hk => (hc k hk.2.2.1).trans hk.1)
theorem R_gr (h : d.R e W base (fun k => col k = c2) v xs) (hg : W.grownBy w1 row) (hr : ∀ k, row = some k → col k = c) (hne : c ≠ c2) : d.R e w1 base (fun k => rcl W.heap.size col c k = c2) v xs :=
  Kd.R_grown (R_col h (fun k hk => rcl_old hk)) hg (fun k hk he => by
    have h1 := hr k he.symm
    unfold rcl at hk
    split at hk
    · exact hne (h1.symm.trans hk)
    · exact hne hk)
theorem S_gr (h : Kd.S d e W base (fun k => col k = c2) v xs) (hg : W.grownBy w1 row) (hr : ∀ k, row = some k → col k = c) (hne : c ≠ c2) : Kd.S d e w1 base (fun k => rcl W.heap.size col c k = c2) v xs :=
  Kd.S_grown (S_col h (fun k hk => rcl_old hk)) hg (fun k hk he => by
    have h1 := hr k he.symm
    unfold rcl at hk
    split at hk
    · exact hne (h1.symm.trans hk)
    · exact hne hk)
theorem B_gr {g : Nat} {o : Obj} (h : W.heap[g]? = some o) (hcg : col g = c2) (hg : W.grownBy w1 row) (hr : ∀ k, row = some k → col k = c) (hne : c ≠ c2) : w1.heap[g]? = some o ∧ rcl W.heap.size col c g = c2 :=
  ⟨(hg.block g (Array.getElem?_eq_some_iff.1 h).1 (fun he => hne ((hr g he.symm).symm.trans hcg))).trans h, (rcl_old (Array.getElem?_eq_some_iff.1 h).1).trans hcg⟩
end
theorem put_at {w : World} {g t : Nat} {cs : Array Value} (hb : w.heap[g]? = some (.cells cs t (0, 0))) (j : Nat) (v : Value) : (w.setCell ⟨g, j, none⟩ v).heap[g]? = some (.cells (cs.setIfInBounds j v) t (0, 0)) := blk_set hb j v
theorem put_far {w : World} {g g' : Nat} {o : Obj} (hb : w.heap[g']? = some o) (h : g' ≠ g) (j : Nat) (v : Value) : (w.setCell ⟨g, j, none⟩ v).heap[g']? = some o := (Below.heap_setCell w ⟨g, j, none⟩ v g' h).trans hb
section
variable {base : Nat} {col col' : Nat → Nat} {W w1 : World} {gO gM n : Nat} {vL vW vF vB vT vS : Value} {s : Orb}
theorem OrbH.below (h : OrbH base col W gO gM n vL vW vF vB vT vS s) (hb : Below W.heap.size W w1) : OrbH base col w1 gO gM n vL vW vF vB vT vS s :=
  ⟨blk_below h.hO hb, blk_below h.hM hb, h.cO, h.cM, h.bO, h.bM, h.nT, h.nS, Kd.S_below h.hL hb, Kd.R_below h.hW hb, Kd.R_below h.hF hb, Kd.R_below h.hB hb, Kd.R_below h.hT hb, Kd.R_below h.hS hb⟩
theorem OrbH.recol (h : OrbH base col W gO gM n vL vW vF vB vT vS s) (hc : ∀ k, k < W.heap.size → col' k = col k) : OrbH base col' W gO gM n vL vW vF vB vT vS s :=
  ⟨h.hO, h.hM, (hc _ (Array.getElem?_eq_some_iff.1 h.hO).1).trans h.cO, (hc _ (Array.getElem?_eq_some_iff.1 h.hM).1).trans h.cM, h.bO, h.bM, h.nT, h.nS, S_col h.hL hc, R_col h.hW hc, R_col h.hF hc, R_col h.hB hc, R_col h.hT hc, R_col h.hS hc⟩
theorem OrbH.ne (h : OrbH base col W gO gM n vL vW vF vB vT vS s) : gO ≠ gM := fun e => by have h1 := h.cO; have h2 := h.cM; rw [e] at h1; omega
theorem OrbH.look (h : OrbH base col W gO gM n vL vW vF vB vT vS s) : mapV n 84 vT vS = vT ∧ mapV n 83 vT vS = vS := by
  unfold mapV
  constructor
  · rw [if_pos rfl]
    split
    · rfl
    · exact (h.nT (by omega)).symm
  · rw [if_neg (by decide)]
    split
    · rfl
    · exact (h.nS (by omega)).symm
theorem OrbH.putL {v1 : Value} {L1 : List S25} (h : OrbH base col W gO gM n vL vW vF vB vT vS s) (hg : W.grownBy w1 vL.ownBlock) (h1 : Kd.S k25 25 w1 base (fun k => rcl W.heap.size col 0 k = 0) v1 L1) :
    OrbH base (rcl W.heap.size col 0) (w1.setCell ⟨gO, 0, none⟩ v1) gO gM n v1 vW vF vB vT vS { s with L := L1 } := by
  have hr : ∀ k, vL.ownBlock = some k → col k = 0 := (Kd.S_R h.hL).1
  have bO := B_gr h.hO h.cO hg hr (by decide)
  have bM := B_gr h.hM h.cM hg hr (by decide)
  have far : ∀ c, c ≠ 6 → ∀ k, rcl W.heap.size col 0 k = c → k ≠ (⟨gO, 0, none⟩ : Addr).block := fun c hc k hk e => by
    have : k = gO := e
    rw [this, bO.2] at hk
    exact hc hk.symm
  exact ⟨put_at bO.1 0 v1, put_far bM.1 h.ne.symm 0 v1, bO.2, bM.2, h.bO, h.bM, h.nT, h.nS, Kd.S_far h1 (far 0 (by decide)) v1, Kd.R_far (R_gr h.hW hg hr (by decide)) (far 1 (by decide)) v1, Kd.R_far (R_gr h.hF hg hr (by decide)) (far 2 (by decide)) v1, Kd.R_far (R_gr h.hB hg hr (by decide)) (far 3 (by decide)) v1, Kd.R_far (R_gr h.hT hg hr (by decide)) (far 4 (by decide)) v1, Kd.R_far (R_gr h.hS hg hr (by decide)) (far 5 (by decide)) v1⟩
theorem OrbH.putW {v1 : Value} {L1 : List ByteArray} (h : OrbH base col W gO gM n vL vW vF vB vT vS s) (hg : W.grownBy w1 vW.ownBlock) (h1 : Kd.R Kd.string 9 w1 base (fun k => rcl W.heap.size col 1 k = 1) v1 L1) :
    OrbH base (rcl W.heap.size col 1) (w1.setCell ⟨gO, 1, none⟩ v1) gO gM n vL v1 vF vB vT vS { s with W := L1 } := by
  have hr : ∀ k, vW.ownBlock = some k → col k = 1 := h.hW.1
  have bO := B_gr h.hO h.cO hg hr (by decide)
  have bM := B_gr h.hM h.cM hg hr (by decide)
  have far : ∀ c, c ≠ 6 → ∀ k, rcl W.heap.size col 1 k = c → k ≠ (⟨gO, 1, none⟩ : Addr).block := fun c hc k hk e => by
    have : k = gO := e
    rw [this, bO.2] at hk
    exact hc hk.symm
  exact ⟨put_at bO.1 1 v1, put_far bM.1 h.ne.symm 1 v1, bO.2, bM.2, h.bO, h.bM, h.nT, h.nS, Kd.S_far (S_gr h.hL hg hr (by decide)) (far 0 (by decide)) v1, Kd.R_far h1 (far 1 (by decide)) v1, Kd.R_far (R_gr h.hF hg hr (by decide)) (far 2 (by decide)) v1, Kd.R_far (R_gr h.hB hg hr (by decide)) (far 3 (by decide)) v1, Kd.R_far (R_gr h.hT hg hr (by decide)) (far 4 (by decide)) v1, Kd.R_far (R_gr h.hS hg hr (by decide)) (far 5 (by decide)) v1⟩
theorem OrbH.putF {v1 : Value} {L1 : List Int} (h : OrbH base col W gO gM n vL vW vF vB vT vS s) (hg : W.grownBy w1 vF.ownBlock) (h1 : Kd.R (Kd.int .i64) 3 w1 base (fun k => rcl W.heap.size col 2 k = 2) v1 L1) :
    OrbH base (rcl W.heap.size col 2) (w1.setCell ⟨gO, 2, none⟩ v1) gO gM n vL vW v1 vB vT vS { s with F := L1 } := by
  have hr : ∀ k, vF.ownBlock = some k → col k = 2 := h.hF.1
  have bO := B_gr h.hO h.cO hg hr (by decide)
  have bM := B_gr h.hM h.cM hg hr (by decide)
  have far : ∀ c, c ≠ 6 → ∀ k, rcl W.heap.size col 2 k = c → k ≠ (⟨gO, 2, none⟩ : Addr).block := fun c hc k hk e => by
    have : k = gO := e
    rw [this, bO.2] at hk
    exact hc hk.symm
  exact ⟨put_at bO.1 2 v1, put_far bM.1 h.ne.symm 2 v1, bO.2, bM.2, h.bO, h.bM, h.nT, h.nS, Kd.S_far (S_gr h.hL hg hr (by decide)) (far 0 (by decide)) v1, Kd.R_far (R_gr h.hW hg hr (by decide)) (far 1 (by decide)) v1, Kd.R_far h1 (far 2 (by decide)) v1, Kd.R_far (R_gr h.hB hg hr (by decide)) (far 3 (by decide)) v1, Kd.R_far (R_gr h.hT hg hr (by decide)) (far 4 (by decide)) v1, Kd.R_far (R_gr h.hS hg hr (by decide)) (far 5 (by decide)) v1⟩
theorem OrbH.putB {v1 : Value} {L1 : List Int} (h : OrbH base col W gO gM n vL vW vF vB vT vS s) (hg : W.grownBy w1 vB.ownBlock) (h1 : Kd.R (Kd.int .u8) 5 w1 base (fun k => rcl W.heap.size col 3 k = 3) v1 L1) :
    OrbH base (rcl W.heap.size col 3) (w1.setCell ⟨gO, 3, none⟩ v1) gO gM n vL vW vF v1 vT vS { s with B := L1 } := by
  have hr : ∀ k, vB.ownBlock = some k → col k = 3 := h.hB.1
  have bO := B_gr h.hO h.cO hg hr (by decide)
  have bM := B_gr h.hM h.cM hg hr (by decide)
  have far : ∀ c, c ≠ 6 → ∀ k, rcl W.heap.size col 3 k = c → k ≠ (⟨gO, 3, none⟩ : Addr).block := fun c hc k hk e => by
    have : k = gO := e
    rw [this, bO.2] at hk
    exact hc hk.symm
  exact ⟨put_at bO.1 3 v1, put_far bM.1 h.ne.symm 3 v1, bO.2, bM.2, h.bO, h.bM, h.nT, h.nS, Kd.S_far (S_gr h.hL hg hr (by decide)) (far 0 (by decide)) v1, Kd.R_far (R_gr h.hW hg hr (by decide)) (far 1 (by decide)) v1, Kd.R_far (R_gr h.hF hg hr (by decide)) (far 2 (by decide)) v1, Kd.R_far h1 (far 3 (by decide)) v1, Kd.R_far (R_gr h.hT hg hr (by decide)) (far 4 (by decide)) v1, Kd.R_far (R_gr h.hS hg hr (by decide)) (far 5 (by decide)) v1⟩
theorem OrbH.putT {v1 : Value} {L1 : List Int} (h : OrbH base col W gO gM n vL vW vF vB vT vS s) (hg : W.grownBy w1 vT.ownBlock) (h1 : Kd.R (Kd.int .i64) 3 w1 base (fun k => rcl W.heap.size col 4 k = 4) v1 L1) :
    w1.heap[gM]? = some (mapO n vT vS) ∧ OrbH base (rcl W.heap.size col 4) (setMap w1 gM (max n 1) v1 vS) gO gM (max n 1) vL vW vF vB v1 vS { s with T := L1 } := by
  have hr : ∀ k, vT.ownBlock = some k → col k = 4 := h.hT.1
  have bO := B_gr h.hO h.cO hg hr (by decide)
  have bM := B_gr h.hM h.cM hg hr (by decide)
  have hgm : w1.grownBy (setMap w1 gM (max n 1) v1 vS) (some gM) := setMap_grown v1 vS
  have far : ∀ c, c ≠ 7 → ∀ k, rcl W.heap.size col 4 k = c → some k ≠ some gM := fun c hc k hk e => by
    injection e with e
    rw [e, bM.2] at hk
    exact hc hk.symm
  exact ⟨bM.1, (setMap_far v1 vS h.ne).trans bO.1, setMap_at bM.1 v1 vS, bO.2, bM.2, h.bO, h.bM, fun e => by omega, fun e => h.nS (by omega), Kd.S_grown (S_gr h.hL hg hr (by decide)) hgm (far 0 (by decide)), Kd.R_grown (R_gr h.hW hg hr (by decide)) hgm (far 1 (by decide)), Kd.R_grown (R_gr h.hF hg hr (by decide)) hgm (far 2 (by decide)), Kd.R_grown (R_gr h.hB hg hr (by decide)) hgm (far 3 (by decide)), Kd.R_grown h1 hgm (far 4 (by decide)), Kd.R_grown (R_gr h.hS hg hr (by decide)) hgm (far 5 (by decide))⟩
theorem OrbH.putS {v1 : Value} {L1 : List Int} (h : OrbH base col W gO gM n vL vW vF vB vT vS s) (hn : n = 1 ∨ n = 2) (hg : W.grownBy w1 vS.ownBlock) (h1 : Kd.R (Kd.int .i64) 3 w1 base (fun k => rcl W.heap.size col 5 k = 5) v1 L1) :
    w1.heap[gM]? = some (mapO n vT vS) ∧ OrbH base (rcl W.heap.size col 5) (setMap w1 gM 2 vT v1) gO gM 2 vL vW vF vB vT v1 { s with S := L1 } := by
  have hr : ∀ k, vS.ownBlock = some k → col k = 5 := h.hS.1
  have bO := B_gr h.hO h.cO hg hr (by decide)
  have bM := B_gr h.hM h.cM hg hr (by decide)
  have hgm : w1.grownBy (setMap w1 gM 2 vT v1) (some gM) := setMap_grown vT v1
  have far : ∀ c, c ≠ 7 → ∀ k, rcl W.heap.size col 5 k = c → some k ≠ some gM := fun c hc k hk e => by
    injection e with e
    rw [e, bM.2] at hk
    exact hc hk.symm
  exact ⟨bM.1, (setMap_far vT v1 h.ne).trans bO.1, setMap_at bM.1 vT v1, bO.2, bM.2, h.bO, h.bM, fun e => by omega, fun e => by omega, Kd.S_grown (S_gr h.hL hg hr (by decide)) hgm (far 0 (by decide)), Kd.R_grown (R_gr h.hW hg hr (by decide)) hgm (far 1 (by decide)), Kd.R_grown (R_gr h.hF hg hr (by decide)) hgm (far 2 (by decide)), Kd.R_grown (R_gr h.hB hg hr (by decide)) hgm (far 3 (by decide)), Kd.R_grown (R_gr h.hT hg hr (by decide)) hgm (far 4 (by decide)), Kd.R_grown h1 hgm (far 5 (by decide))⟩
end
end Go.Proofs.Ytcggfjpnfodbaaa.M
end
section
/- What a call made lies apart from what was there. No conditions. -/
namespace Go.Proofs.Ytcggfjpnfodbaaa.M
open Go.RowKit Go.Proofs.YtcggfjpnfodbaaaW.PrintWords Go.Proofs.YtcggfjpnfodbaaaW.PrintLast Go.Proofs.YtcggfjpnfodbaaaW.PrintMore
theorem fresh_R {α : Type} {d : Kd α} {e b b0 : Nat} {w : World} {ok : Nat → Prop} {v : Value} {xs : List α} (h : d.R e w b ok v xs) (hb : b0 ≤ b) : d.R e w b0 (fun k => b ≤ k ∧ k < w.heap.size) v xs :=
  Kd.R_lower (Kd.R_mono (Kd.R_bound h) (fun _ hk => ⟨hk.2.1, hk.2.2.1⟩)) hb
theorem box_store {w0 W : World} {g t : Nat} {cs : Array Value} (hb : W.heap[g]? = some (.cells cs t (0, 0))) (x y : Value) (hB : Below w0.heap.size w0 W) (hg : w0.heap.size ≤ g) :
    ((W.setCell ⟨g, 0, none⟩ x).setCell ⟨g, 1, none⟩ y).heap[g]? = some (.cells ((cs.setIfInBounds 0 x).setIfInBounds 1 y) t (0, 0)) ∧ Kept W ((W.setCell ⟨g, 0, none⟩ x).setCell ⟨g, 1, none⟩ y) (fun k => k = g) ∧ Below w0.heap.size w0 ((W.setCell ⟨g, 0, none⟩ x).setCell ⟨g, 1, none⟩ y) :=
  ⟨blk_set (blk_set hb 0 x) 1 y, Kept.setCell (p := ⟨g, 1, none⟩) (Kept.setCell (p := ⟨g, 0, none⟩) (Kept.refl W (fun k => k = g)) (.inl rfl) x) (.inl rfl) y, below_set (below_set hB hg) hg⟩
end Go.Proofs.Ytcggfjpnfodbaaa.M
end
section
/- Finding the orbit: the program's walk. No conditions. -/
namespace Go.Proofs.Ytcggfjpnfodbaaa.M
set_option linter.unusedVariables false
set_option linter.unusedSimpArgs false
open Go Go.RowKit Go.Proofs.YtcggfjpnfodbaaaW.PrintWords Go.Proofs.YtcggfjpnfodbaaaW.PrintLast Go.Proofs.YtcggfjpnfodbaaaW.PrintMore Go.Proofs.Ytcggfjpnfodbaaa.A
def OrbPost (w w' : World) (e : Ending) : Option Orb → Prop
  | none => e = .returned (.tuple #[.pointer none, .bool false]) ∧ Below w.heap.size w w'
  | some s => ∃ gO gM n col vL vW vF vB vT vS, e = .returned (.tuple #[.pointer (some ⟨gO, 0, none⟩), .bool true]) ∧ OrbH w.heap.size col w' gO gM n vL vW vF vB vT vS s ∧ Below w.heap.size w w'
set_option maxHeartbeats 8000000 in
set_option maxRecDepth 100000 in
theorem orbit_no (k : Nat) (A0 : Option Addr) (c0 : Nat) (l0 : List Int) (A1 : Option Addr) (c1 : Nat) (l1 : List Int) (y1 y2 : List Int) (w : World) (h0 : Kd.C (Kd.int .i64) w A0 l0.length l0) (g0 : l0.length ≤ c0) (h1 : Kd.C (Kd.int .i64) w A1 l1.length l1) (g1 : l1.length ≤ c1) (h : impl_CanonOf.f k l0 l1 = some (y1, y2, false)) :
    Calls Try.prog 59 #[.agg #[.slice A0 l0.length c0, .slice A1 l1.length c1]] w fun e w' => OrbPost w w' e none := by
  have hu := Try.underlying25
  have H0 := Aside0.mk h0; have H1 := Aside0.mk h1; have G0 := Aside0.mk g0; have G1 := Aside0.mk g1; have HA := Aside0.mk h
  clear h0 h1 g0 g1 h
  have HB := Aside0.mk (Below.refl w.heap.size w)
  go_enter Try.func59, Try.ntmps59
  go_wp2_with (first | ((with_reducible refine gate_dst (N := 1) rfl ?_); refine bx_ 1 #[.slice A0 l0.length c0, .slice A1 l1.length c1] 25 ?_; intro gs hg w2 hbox hb; have BS := Aside0.mk hbox; replace HB := b1_ hb; clear hb hbox hg; obtain ⟨hcz0, hcz1, hfz0, hfz1⟩ := c2_ BS) | ((with_reducible refine gate_callee (f := 28) rfl ?_); refine gL_ (some 15) Try.func28 #[.agg #[.slice A0 l0.length c0, .slice A1 l1.length c1]] rfl qa_ ?_; (with_reducible refine (impl_CanonOf.calls k _ _ l0 _ _ l1 y1 y2 false _ (cb_ H0) G0.out (cb_ H1) G1.out HA.out).mono ?_); rintro e w3 ⟨v0, v1, rfl, ho0, ho1, hb⟩; refine ⟨_, rfl, ?_⟩; replace HB := b1_ hb; clear hb; obtain ⟨Ay0, cy0, ey0⟩ := Kd.R_slice ho0; subst ey0; obtain ⟨Ay1, cy1, ey1⟩ := Kd.R_slice ho1; subst ey1; clear ho0 ho1) | ((with_reducible refine gate_dst (N := 4) rfl ?_); refine bx_ 4 #[.slice none 0 0, .slice none 0 0] 25 ?_; intro gf hg w4 hbox hb; have GF := gw_ w hg; have BF := Aside0.mk hbox; replace HB := b1_ hb; clear hb hbox hg; obtain ⟨hcf0, hcf1, hff0, hff1⟩ := c2_ BF))
  go_ret2
  exact ⟨qb_, hB_⟩
section
variable {P : Program} {ops : Array Oper} {rest : List Oper} {o : Oper} {a : Act} {Q : Exit → Act → World → Prop}
theorem lit_event {W : World} (N : Tmp) (cs : Array Value) (e : TypeId) (n : Nat) (h : ∀ g, g = W.heap.size → ∀ w1, w1.heap[g]? = some (.cells cs e (0, 0)) → Below W.heap.size W w1 → wpList P ops Q rest (a.put o.dst (.slice (some ⟨g, 0, none⟩) n n)) w1) (hgd : o.guard = none := by rfl) (hd : o.dst = some N := by rfl)
    (hrun : (execOp a.eval o).run P W = .ok (.value (.slice (some ⟨W.heap.size, 0, none⟩) n n)) (W.alloc (.cells cs e (0, 0))) := by first | (go_simp; done) | (go_simp; rfl)) : wpList P ops Q (o :: rest) a W :=
  Kd.event_run hgd hrun (h _ rfl _ (blk_new W _) (below_alloc (Below.refl _ _) _))
theorem map_event {W : World} (N : Tmp) (h : ∀ g, g = W.heap.size → ∀ w1, w1.heap[g]? = some (.map #[] 0) → Below W.heap.size W w1 → wpList P ops Q rest (a.put o.dst (.map (some g))) w1) (hgd : o.guard = none := by rfl) (hd : o.dst = some N := by rfl)
    (hrun : (execOp a.eval o).run P W = .ok (.value (.map (some W.heap.size))) (W.alloc (.map #[] 0)) := by first | (go_simp; done) | (go_simp; rfl)) : wpList P ops Q (o :: rest) a W :=
  Kd.event_run hgd hrun (h _ rfl _ (blk_new W _) (below_alloc (Below.refl _ _) _))
end
theorem R_blk {α : Type} {enc : α → Value} {h1 : ∀ x : α, (enc x).oneCell' = true} {W : World} {g e base : Nat} {x : α} {ok : Nat → Prop} (hb : W.heap[g]? = some (.cells #[enc x] e (0, 0))) (hg : base ≤ g) (hok : ok g) : (Kd.scalar enc h1).R e W base ok (.slice (some ⟨g, 0, none⟩) 1 1) [x] :=
  ⟨fun k hk => (by simpa [Value.ownBlock] using hk : g = k) ▸ hok, [enc x], ⟨rfl, .inr ⟨g, 1, #[enc x], rfl, hg, hb, Nat.le_refl _, by decide, rfl, rfl⟩⟩, Reps.one rfl (Reps.none _ _)⟩
theorem S_blk {W : World} {g base : Nat} {u0 u1 : Value} {x : S25} {ok : Nat → Prop} (hb : W.heap[g]? = some (.cells #[u0, u1] 25 (0, 0))) (hg : base ≤ g) (hok : ok g) (h0 : Kd.R (Kd.int .i64) 3 W base (fun k => ok k ∧ k ≠ g) u0 x.f0) (h1 : Kd.R (Kd.int .i64) 3 W base (fun k => ok k ∧ k ≠ g) u1 x.f1) (ne : NeRow u0 u1) : Kd.S k25 25 W base ok (.slice (some ⟨g, 0, none⟩) 1 1) [x] := by
  refine ⟨fun _ => 0, fun k hk => by
    have : g = k := by simpa [Value.ownBlock] using hk
    exact this ▸ hok, [u0, u1], ⟨rfl, .inr ⟨g, 1, #[u0, u1], rfl, hg, hb, Nat.le_refl _, by decide, rfl, rfl⟩⟩, Reps.c2 ?_ (Reps.none _ _)⟩
  exact k25_mkM _ _ _ x (Kd.R_mono h0 (fun k hk => ⟨⟨hk.1, by simpa [Value.ownBlock] using hk.2⟩, rfl⟩)) (Kd.R_mono h1 (fun k hk => ⟨⟨hk.1, by simpa [Value.ownBlock] using hk.2⟩, rfl⟩)) ne
def orb_T21 : Bool × List (List Nat × List Nat) := (true, [([], []), ([0], [0]), ([1], [1]), ([2], [2]), ([], []), ([], []), ([5], [5]), ([6], [6]), ([7], [7]), ([], []), ([8, 9], [8, 9]), ([], []), ([11], [11]), ([10, 12], [10, 12]), ([3, 4, 13, 13, 0, 1, 2, 3, 4, 5, 6, 7, 8, 9, 10, 11, 12, 13], [3, 4, 13])])
def orb_B21 : List Nat := [0, 1, 3, 7, 0, 0, 32, 96, 224, 0, 992, 0, 2048, 8160, 16383]
theorem orb_tab21 : rtab .any (opsOf Try.f59 21) = orb_T21 := by kernel_rfl
theorem orb_bits21 : waitsOk orb_T21.2 orb_B21 = true := by kernel_rfl
def orb_T17 : Bool × List (List Nat × List Nat) := (true, [([], []), ([], []), ([1], [1]), ([2], [2]), ([3], [3]), ([], []), ([5], [5]), ([4, 6], [4, 6]), ([0, 0, 1, 2, 3, 4, 5, 6, 7], [0]), ([8, 0, 1, 2, 3, 4, 5, 6, 7], [8]), ([9, 7, 7, 0, 1, 2, 3, 4, 5, 6, 7], [7, 9])])
def orb_B17 : List Nat := [0, 0, 2, 6, 14, 0, 32, 126, 255, 511, 1023]
theorem orb_tab17 : rtab .any (opsOf Try.f59 17) = orb_T17 := by kernel_rfl
theorem orb_bits17 : waitsOk orb_T17.2 orb_B17 = true := by kernel_rfl
def orb_T18 : Bool × List (List Nat × List Nat) := (true, [([], []), ([], []), ([1], [1]), ([2], [2]), ([3], [3]), ([], []), ([5], [5]), ([6], [6]), ([7], [7]), ([], []), ([8, 9], [8, 9]), ([10], [10]), ([], []), ([12], [12]), ([13], [13]), ([11, 14], [11, 14]), ([15], [15]), ([4, 16], [4, 16]), ([0, 0, 1, 2, 3, 4, 5, 6, 7, 8, 9, 10, 11, 12, 13, 14, 15, 16, 17], [0]), ([18, 0, 1, 2, 3, 4, 5, 6, 7, 8, 9, 10, 11, 12, 13, 14, 15, 16, 17], [18]), ([19, 17, 17, 0, 1, 2, 3, 4, 5, 6, 7, 8, 9, 10, 11, 12, 13, 14, 15, 16, 17], [17, 19])])
def orb_B18 : List Nat := [0, 0, 2, 6, 14, 0, 32, 96, 224, 0, 992, 2016, 0, 4096, 12288, 32736, 65504, 131070, 262143, 524287, 1048575]
theorem orb_tab18 : rtab .any (opsOf Try.f59 18) = orb_T18 := by kernel_rfl
theorem orb_bits18 : waitsOk orb_T18.2 orb_B18 = true := by kernel_rfl
set_option maxHeartbeats 8000000 in
set_option maxRecDepth 100000 in
theorem orbit_yes (k : Nat) (A0 : Option Addr) (c0 : Nat) (l0 : List Int) (A1 : Option Addr) (c1 : Nat) (l1 : List Int) (y1 y2 : List Int) (R : Option Orb) (w : World) (h0 : Kd.C (Kd.int .i64) w A0 l0.length l0) (g0 : l0.length ≤ c0) (h1 : Kd.C (Kd.int .i64) w A1 l1.length l1) (g1 : l1.length ≤ c1) (h : impl_CanonOf.f k l0 l1 = some (y1, y2, true)) (hl : loopO k ⟨[⟨y1, y2⟩], [⟨#[]⟩], [-1], [0], [], []⟩ 0 = some R) :
    Calls Try.prog 59 #[.agg #[.slice A0 l0.length c0, .slice A1 l1.length c1]] w fun e w' => OrbPost w w' e R := by
  have hu := Try.underlying25
  have H0 := Aside0.mk h0; have H1 := Aside0.mk h1; have G0 := Aside0.mk g0; have G1 := Aside0.mk g1; have HA := Aside0.mk h; have HL := Aside0.mk hl
  clear h0 h1 g0 g1 h hl
  have HB := Aside0.mk (Below.refl w.heap.size w)
  go_enter Try.func59, Try.ntmps59
  go_upto_region 4 with (first | ((with_reducible refine gate_dst (N := 1) rfl ?_); refine bx_ 1 #[.slice A0 l0.length c0, .slice A1 l1.length c1] 25 ?_; intro gs hg w2 hbox hb; have BS := Aside0.mk hbox; replace HB := b1_ hb; clear hb hbox hg; obtain ⟨hcz0, hcz1, hfz0, hfz1⟩ := c2_ BS) | ((with_reducible refine gate_callee (f := 28) rfl ?_); refine gL_ (some 15) Try.func28 #[.agg #[.slice A0 l0.length c0, .slice A1 l1.length c1]] rfl qa_ ?_; (with_reducible refine (impl_CanonOf.calls k _ _ l0 _ _ l1 y1 y2 true _ (cb_ H0) G0.out (cb_ H1) G1.out HA.out).mono ?_); rintro e w3 ⟨v0, v1, rfl, ho0, ho1, hb⟩; refine ⟨_, rfl, ?_⟩; have ZB := Aside0.mk (below_size hB_ : w.heap.size ≤ w2.heap.size); replace HB := b1_ hb; clear hb; obtain ⟨Ay0, cy0, ey0⟩ := Kd.R_slice ho0; subst ey0; obtain ⟨Ay1, cy1, ey1⟩ := Kd.R_slice ho1; subst ey1; have Y0 := Aside0.mk ho0; have Y1 := Aside0.mk ho1; clear ho0 ho1) | ((with_reducible refine gate_dst (N := 4) rfl ?_); refine bx_ 4 #[.slice none 0 0, .slice none 0 0] 25 ?_; intro gf hg w4 hbox hb; have GF := gw_ w hg; have GF2 := Aside0.mk (show w3.heap.size ≤ gf from Nat.le_of_eq hg.symm); have BF := Aside0.mk hbox; have B3 := Aside0.mk hb; replace HB := b1_ hb; clear hb hbox hg; obtain ⟨hcf0, hcf1, hff0, hff1⟩ := c2_ BF))
  obtain ⟨hbox, hkp, hB2⟩ := box_store BF.out (.slice Ay0 y1.length cy0) (.slice Ay1 y2.length cy1) HB.out GF.out
  generalize hw : ((w4.setCell ⟨gf, 0, none⟩ (.slice Ay0 y1.length cy0)).setCell ⟨gf, 1, none⟩ (.slice Ay1 y2.length cy1)) = w5 at hbox hkp hB2 ⊢
  clear hw hcf0 hcf1 hff0 hff1 hcz0 hcz1 hfz0 hfz1 HB
  have NE := Aside0.mk (show NeRow (.slice Ay0 y1.length cy0) (.slice Ay1 y2.length cy1) from fun k_ e1_ e2_ => (Y0.out.1 k_ e1_) e2_.symm)
  replace Y0 := Aside0.mk (Kd.R_kept (Kd.R_below (Kd.R_bound Y0.out) B3.out) hkp (fun k_ hk hs => by have h2 := hk.2.2.1; have h3 := GF2.out; omega))
  replace Y1 := Aside0.mk (Kd.R_kept (Kd.R_below (Kd.R_bound Y1.out) B3.out) hkp (fun k_ hk hs => by have h2 := hk.2.2.1; have h3 := GF2.out; omega))
  have HB := Aside0.mk hB2
  replace BF := Aside0.mk (show w5.heap[gf]? = some (.cells #[.slice Ay0 y1.length cy0, .slice Ay1 y2.length cy1] 25 (0, 0)) from hbox)
  have Z5 := Aside0.mk hkp.1
  have HB5 := HB
  clear hbox hkp hB2
  obtain ⟨hcf0, hcf1, hff0, hff1⟩ := c2_ BF
  replace Y0 := Aside0.mk (Kd.R_bound Y0.out)
  replace Y1 := Aside0.mk (Kd.R_bound Y1.out)
  go_wp2_with (first | ((with_reducible refine gate_dst (N := 21) rfl ?_); refine lit_event 21 #[.slice Ay0 y1.length cy0, .slice Ay1 y2.length cy1] 25 1 ?_; intro g1 hg w6 hbox hb; have Kg1 := Aside0.mk hbox; have Sg1 := Aside0.mk (show w5.heap.size ≤ g1 ∧ g1 < w6.heap.size from ⟨Nat.le_of_eq hg.symm, (Array.getElem?_eq_some_iff.1 hbox).1⟩); replace Y0 := Aside0.mk (Kd.R_below Y0.out hb); replace Y1 := Aside0.mk (Kd.R_below Y1.out hb); replace HB := b1_ hb; clear hb hbox hg) | ((with_reducible refine gate_dst (N := 22) rfl ?_); refine lit_event 22 #[.string ⟨#[]⟩] 9 1 ?_; intro g2 hg w7 hbox hb; have Kg2 := Aside0.mk hbox; have Sg2 := Aside0.mk (show w6.heap.size ≤ g2 ∧ g2 < w7.heap.size from ⟨Nat.le_of_eq hg.symm, (Array.getElem?_eq_some_iff.1 hbox).1⟩); replace Kg1 := bb_ Kg1 hb; replace Y0 := Aside0.mk (Kd.R_below Y0.out hb); replace Y1 := Aside0.mk (Kd.R_below Y1.out hb); replace HB := b1_ hb; clear hb hbox hg) | ((with_reducible refine gate_dst (N := 23) rfl ?_); refine lit_event 23 #[.int .i64 (-1)] 3 1 ?_; intro g3 hg w8 hbox hb; have Kg3 := Aside0.mk hbox; have Sg3 := Aside0.mk (show w7.heap.size ≤ g3 ∧ g3 < w8.heap.size from ⟨Nat.le_of_eq hg.symm, (Array.getElem?_eq_some_iff.1 hbox).1⟩); replace Kg1 := bb_ Kg1 hb; replace Kg2 := bb_ Kg2 hb; replace Y0 := Aside0.mk (Kd.R_below Y0.out hb); replace Y1 := Aside0.mk (Kd.R_below Y1.out hb); replace HB := b1_ hb; clear hb hbox hg) | ((with_reducible refine gate_dst (N := 24) rfl ?_); refine lit_event 24 #[.int .u8 0] 5 1 ?_; intro g4 hg w9 hbox hb; have Kg4 := Aside0.mk hbox; have Sg4 := Aside0.mk (show w8.heap.size ≤ g4 ∧ g4 < w9.heap.size from ⟨Nat.le_of_eq hg.symm, (Array.getElem?_eq_some_iff.1 hbox).1⟩); replace Kg1 := bb_ Kg1 hb; replace Kg2 := bb_ Kg2 hb; replace Kg3 := bb_ Kg3 hb; replace Y0 := Aside0.mk (Kd.R_below Y0.out hb); replace Y1 := Aside0.mk (Kd.R_below Y1.out hb); replace HB := b1_ hb; clear hb hbox hg) | ((with_reducible refine gate_dst (N := 25) rfl ?_); refine map_event 25 ?_; intro gM hg w10 hbox hb; have KgM := Aside0.mk hbox; have SgM := Aside0.mk (show w9.heap.size ≤ gM ∧ gM < w10.heap.size from ⟨Nat.le_of_eq hg.symm, (Array.getElem?_eq_some_iff.1 hbox).1⟩); replace Kg1 := bb_ Kg1 hb; replace Kg2 := bb_ Kg2 hb; replace Kg3 := bb_ Kg3 hb; replace Kg4 := bb_ Kg4 hb; replace Y0 := Aside0.mk (Kd.R_below Y0.out hb); replace Y1 := Aside0.mk (Kd.R_below Y1.out hb); replace HB := b1_ hb; clear hb hbox hg) | ((with_reducible refine gate_dst (N := 27) rfl ?_); refine bx_ 27 #[.slice (some ⟨g1, 0, none⟩) 1 1, .slice (some ⟨g2, 0, none⟩) 1 1, .slice (some ⟨g3, 0, none⟩) 1 1, .slice (some ⟨g4, 0, none⟩) 1 1, .map (some gM)] 69 ?_; intro gO hg w11 hbox hb; have KgO := Aside0.mk hbox; have SgO := Aside0.mk (show w10.heap.size ≤ gO ∧ gO < w11.heap.size from ⟨Nat.le_of_eq hg.symm, (Array.getElem?_eq_some_iff.1 hbox).1⟩); replace Kg1 := bb_ Kg1 hb; replace Kg2 := bb_ Kg2 hb; replace Kg3 := bb_ Kg3 hb; replace Kg4 := bb_ Kg4 hb; replace KgM := bb_ KgM hb; replace Y0 := Aside0.mk (Kd.R_below Y0.out hb); replace Y1 := Aside0.mk (Kd.R_below Y1.out hb); replace HB := b1_ hb; clear hb hbox hg))
  have HH : Aside0 (OrbH w.heap.size (fun k => if k = g2 then 1 else if k = g3 then 2 else if k = g4 then 3 else if k = gO then 6 else if k = gM then 7 else 0) w11 gO gM 0 (.slice (some ⟨g1, 0, none⟩) 1 1) (.slice (some ⟨g2, 0, none⟩) 1 1) (.slice (some ⟨g3, 0, none⟩) 1 1) (.slice (some ⟨g4, 0, none⟩) 1 1) (.slice none 0 0) (.slice none 0 0) ⟨[⟨y1, y2⟩], [⟨#[]⟩], [-1], [0], [], []⟩) := by
    have q1 := Sg1.out; have q2 := Sg2.out; have q3 := Sg3.out; have q4 := Sg4.out; have q5 := SgM.out; have q6 := SgO.out
    have z5 := Z5.out; have z2 := ZB.out; have zf := GF.out; have zg := GF2.out
    have bz : w.heap.size ≤ w5.heap.size := HB5.out.size
    refine ⟨⟨KgO.out, KgM.out, ?_, ?_, by omega, by omega, fun _ => rfl, fun _ => rfl, ?_, ?_, ?_, ?_, Kd.R_nil _ _ _ _ _, Kd.R_nil _ _ _ _ _⟩⟩
    · show (if gO = g2 then 1 else if gO = g3 then 2 else if gO = g4 then 3 else if gO = gO then 6 else if gO = gM then 7 else 0) = 6
      rw [if_neg (by omega), if_neg (by omega), if_neg (by omega), if_pos rfl]
    · show (if gM = g2 then 1 else if gM = g3 then 2 else if gM = g4 then 3 else if gM = gO then 6 else if gM = gM then 7 else 0) = 7
      rw [if_neg (by omega), if_neg (by omega), if_neg (by omega), if_neg (by omega), if_pos rfl]
    · refine S_blk (x := ⟨y1, y2⟩) Kg1.out (by omega) ?_ ?_ ?_ NE.out
      · show (if g1 = g2 then 1 else if g1 = g3 then 2 else if g1 = g4 then 3 else if g1 = gO then 6 else if g1 = gM then 7 else 0) = 0
        rw [if_neg (by omega), if_neg (by omega), if_neg (by omega), if_neg (by omega), if_neg (by omega)]
      · refine Kd.R_mono (Kd.R_lower Y0.out (by omega)) (fun k hk => ?_)
        have hk2 := hk.2.2.1
        show (if k = g2 then 1 else if k = g3 then 2 else if k = g4 then 3 else if k = gO then 6 else if k = gM then 7 else 0) = 0 ∧ k ≠ g1
        rw [if_neg (by omega), if_neg (by omega), if_neg (by omega), if_neg (by omega), if_neg (by omega)]
        exact ⟨rfl, by omega⟩
      · refine Kd.R_mono (Kd.R_lower Y1.out (by omega)) (fun k hk => ?_)
        have hk2 := hk.2.2.1
        show (if k = g2 then 1 else if k = g3 then 2 else if k = g4 then 3 else if k = gO then 6 else if k = gM then 7 else 0) = 0 ∧ k ≠ g1
        rw [if_neg (by omega), if_neg (by omega), if_neg (by omega), if_neg (by omega), if_neg (by omega)]
        exact ⟨rfl, by omega⟩
    · exact R_blk Kg2.out (by omega) (if_pos rfl)
    · refine R_blk Kg3.out (by omega) ?_
      show (if g3 = g2 then 1 else if g3 = g3 then 2 else if g3 = g4 then 3 else if g3 = gO then 6 else if g3 = gM then 7 else 0) = 2
      rw [if_neg (by omega), if_pos rfl]
    · refine R_blk Kg4.out (by omega) ?_
      show (if g4 = g2 then 1 else if g4 = g3 then 2 else if g4 = g4 then 3 else if g4 = gO then 6 else if g4 = gM then 7 else 0) = 3
      rw [if_neg (by omega), if_neg (by omega), if_pos rfl]
  clear Kg1 Kg2 Kg3 Kg4 KgM KgO Sg1 Sg2 Sg3 Sg4 SgM SgO Y0 Y1 NE BF GF GF2 Z5 ZB B3 BS H0 H1 G0 G1 HA hcf0 hcf1 hff0 hff1 HB5
  go_loopg [7] k (fun kq v7 w' => ∃ (x7 : Int) (n : Nat) (col : Nat → Nat) (vL vW vF vB vT vS : Value) (s : Orb), v7 = .int .i64 x7 ∧ Aside0 (loopO kq s x7 = some R) ∧ Aside0 (kq ≤ k) ∧ Aside0 (n = 0 ∨ n = 2) ∧ Aside0 (OrbH w.heap.size col w' gO gM n vL vW vF vB vT vS s) ∧ Aside0 (Below w.heap.size w w'))
  case atStart => exact ⟨0, 0, _, _, _, _, _, _, _, _, rfl, HL, ⟨Nat.le_refl _⟩, ⟨.inl rfl⟩, HH, HB⟩
  case round =>
    clear HL HH HB
    obtain ⟨x7, n, col, vL, vW, vF, vB, vT, vS, s, rfl, HA, HK, HN, HH, HB⟩ := hrel
    cases gk with
    | zero => exact absurd HA.out (by simp [loopO])
    | succ k1 =>
      have H := HA.out
      clear HA
      simp only [loopO] at H
      obtain ⟨AL, cL, eL⟩ := Kd.S_slice HH.out.hL
      subst eL
      have hco0 : wr.cell? ⟨gO, 0, none⟩ = some (.slice AL s.L.length cL) := (blk_cell HH.out.hO 0).trans rfl
      have hfo0 := blk_frozen HH.out.hO 0
      by_cases hq1 : x7 < (s.L.length : Int)
      · rw [if_pos hq1] at H
        have c1b := decide_eq_true hq1
        obtain ⟨z, AZ, H⟩ := bi_ H
        have HR := Aside0.mk H
        clear H
        obtain ⟨wo, hwo⟩ : ∃ wo : World, wo = wr := ⟨_, rfl⟩
        subst hwo
        go_wp2_with (first | ((with_reducible refine gate_dst (N := 37) rfl ?_); refine lit_event 37 #[.int .u8 84, .int .u8 83] 5 2 ?_; intro gl hg w12 hbox hb; have SL := Aside0.mk (show wo.heap.size ≤ gl from Nat.le_of_eq hg.symm); have BL := Aside0.mk hbox; have HH2 := Aside0.mk ((HH.out.recol (col' := fun k => if k = gl then 8 else col k) (fun k hk => if_neg (by have := SL.out; omega))).below hb); replace HB := b1_ hb; clear hb hbox hg))
        clear hco0 hfo0 c1b HH
        have SLG := SL
        go_loopg [39] 2 (fun gi v39 w' => ∃ (jj n' : Nat) (col' : Nat → Nat) (vL vW vF vB vT vS : Value) (s' : Orb), v39 = .int .i64 (jj : Int) ∧ Aside0 (jj ≤ 2) ∧ Aside0 (2 - jj ≤ gi) ∧ Aside0 (innerO k1 x7 (([84, 83] : List Int).drop jj) s' = some z) ∧ Aside0 ((jj = 0 → n' = 0 ∨ n' = 2) ∧ (jj = 1 → n' = 1 ∨ n' = 2) ∧ (jj = 2 → n' = 2)) ∧ Aside0 (col' gl = 8) ∧ Aside0 (w'.heap[gl]? = some (.cells #[.int .u8 84, .int .u8 83] 5 (0, 0))) ∧ Aside0 (OrbH w.heap.size col' w' gO gM n' vL vW vF vB vT vS s') ∧ Aside0 (Below w.heap.size w w'))
        case atStart => exact ⟨0, n, (fun k => if k = gl then 8 else col k), _, _, _, _, _, _, s, rfl, ⟨by omega⟩, ⟨by omega⟩, AZ, ⟨⟨fun _ => HN.out, fun e => absurd e (by decide), fun e => absurd e (by decide)⟩⟩, ⟨if_pos rfl⟩, BL, HH2, HB⟩
        case round =>
          clear AZ HH2 HB BL SL HN
          obtain ⟨jj, n', col', vL', vW', vF', vB', vT', vS', s', rfl, HJ, HG, AZ, HN, HC, BL, HH, HB⟩ := hrel
          have hj := HJ.out
          obtain ⟨AL', cL', eL'⟩ := Kd.S_slice HH.out.hL
          subst eL'
          have hcl0 : wr.cell? ⟨gl, 0, none⟩ = some (.int .u8 84) := (blk_cell BL.out 0).trans rfl
          have hcl1 : wr.cell? ⟨gl, 1, none⟩ = some (.int .u8 83) := (blk_cell BL.out 1).trans rfl
          have hfl0 := blk_frozen BL.out 0
          have hfl1 := blk_frozen BL.out 1
          have hco0 : wr.cell? ⟨gO, 0, none⟩ = some (.slice AL' s'.L.length cL') := (blk_cell HH.out.hO 0).trans rfl
          have hfo0 := blk_frozen HH.out.hO 0
          rcases Nat.lt_or_ge jj 2 with hj2 | hj2
          · have hq3 : jj = 0 ∨ jj = 1 := by omega
            rcases hq3 with rfl | rfl
            · skip
              have hn0 := Aside0.mk (HN.out.1 rfl)
              have H := AZ.out
              clear AZ
              change innerO k1 x7 (84 :: [83]) s' = some z at H
              simp only [innerO] at H
              obtain ⟨zz, AS, H⟩ := bi_ H
              have HT := Aside0.mk H
              have H := AS.out
              clear AS
              unfold stpO at H
              have hi0 := cp_ H
              replace H := ca_ H
              have hi1 := cp_ H
              replace H := ca_ H
              obtain ⟨⟨x1, x2⟩, AX, H⟩ := bi_ H
              obtain ⟨⟨y1', y2', yb⟩, AY, H⟩ := bi_ H
              obtain ⟨j, AJ, H⟩ := bi_ H
              dsimp only at H AY AJ
              have HS := Aside0.mk H
              clear H
              obtain ⟨adx, Ax0, cx0, Ax1, cx1, ex, hx0, hx1, hlx0, hix0, hlx1, hix1⟩ := at_T25 (Kd.S_reads' HH.out.hL).2.2 x7 hi0 hi1
              cases ex
              have X0 := Aside0.mk hix0; have X1 := Aside0.mk hix1; have LX0 := Aside0.mk hlx0; have LX1 := Aside0.mk hlx1
              clear hix0 hix1 hlx0 hlx1
              have ti0 := eq_true hi0
              have ti1 := eq_true hi1
              have td1 := decide_eq_true hi1
              go_upto_region 12 with (first | ((with_reducible refine gate_callee (f := 63) rfl ?_); refine gL_ (some 52) Try.func63 #[.agg #[.slice Ax0 (rd_T25 s'.L x7).f0.length cx0, .slice Ax1 (rd_T25 s'.L x7).f1.length cx1], .int .u8 84] rfl qa_ ?_; (with_reducible refine (impl_letterSurface.calls k1 _ _ (rd_T25 s'.L x7).f0 _ _ (rd_T25 s'.L x7).f1 84 x1 x2 _ X0.out LX0.out X1.out LX1.out AX.out).mono ?_); rintro e w13 ⟨v0, v1, rfl, ho0, ho1, hb⟩; refine ⟨_, rfl, ?_⟩; replace HH := Aside0.mk (HH.out.below hb); replace BL := bb_ BL hb; replace HB := b1_ hb; clear hb; obtain ⟨Al0, cl0, el0⟩ := Kd.R_slice ho0; subst el0; obtain ⟨Al1, cl1, el1⟩ := Kd.R_slice ho1; subst el1; have LT0 := Aside0.mk (Kd.R_reads' ho0).2; have LT1 := Aside0.mk (Kd.R_reads' ho1).2; clear ho0 ho1) | ((with_reducible refine gate_callee (f := 28) rfl ?_); refine gL_ (some 53) Try.func28 #[.agg #[.slice Al0 x1.length cl0, .slice Al1 x2.length cl1]] rfl qa_ ?_; (with_reducible refine (impl_CanonOf.calls k1 _ _ x1 _ _ x2 y1' y2' yb _ LT0.out.2 LT0.out.1 LT1.out.2 LT1.out.1 AY.out).mono ?_); rintro e w14 ⟨v0, v1, rfl, ho0, ho1, hb⟩; refine ⟨_, rfl, ?_⟩; have ZC := Aside0.mk (below_size hB_ : w.heap.size ≤ w13.heap.size); have ZD := Aside0.mk hb.size; have SL13 := Aside0.mk (Kd.S_below (Kd.S_mono (ok' := fun k_ => col' k_ = 0 ∧ k_ < w13.heap.size) (Kd.S_bound HH.out.hL) (fun k_ hk_ => ⟨hk_.1, hk_.2.2.1⟩)) hb); replace HH := Aside0.mk ((HH.out.recol (col' := rcl w13.heap.size col' 0) (fun k hk => rcl_old hk)).below hb); replace HC := Aside0.mk ((rcl_old (blk_lt BL.out)).trans HC.out : rcl w13.heap.size col' 0 gl = 8); replace BL := bb_ BL hb; replace HB := b1_ hb; clear hb; obtain ⟨Ay0, cy0, ey0⟩ := Kd.R_slice ho0; subst ey0; obtain ⟨Ay1, cy1, ey1⟩ := Kd.R_slice ho1; subst ey1; have Y0 := Aside0.mk ho0; have Y1 := Aside0.mk ho1; clear ho0 ho1) | ((with_reducible refine gate_dst (N := 10) rfl ?_); refine bx_ 10 #[.slice none 0 0, .slice none 0 0] 25 ?_; intro gx hg w15 hbox hb; have GX := Aside0.mk (show w14.heap.size ≤ gx from Nat.le_of_eq hg.symm); have BX := Aside0.mk hbox; have B3 := Aside0.mk hb; clear hb hbox hg; obtain ⟨hcf0, hcf1, hff0, hff1⟩ := c2_ BX))
              obtain ⟨hbox, hkp, hB2⟩ := box_store (w0 := w14) BX.out (.slice Ay0 y1'.length cy0) (.slice Ay1 y2'.length cy1) B3.out GX.out
              generalize hw : ((w15.setCell ⟨gx, 0, none⟩ (.slice Ay0 y1'.length cy0)).setCell ⟨gx, 1, none⟩ (.slice Ay1 y2'.length cy1)) = w16 at hbox hkp hB2 ⊢
              clear hw hcf0 hcf1 hff0 hff1 hcl0 hcl1 hfl0 hfl1 hco0 hfo0 hx0 hx1 X0 X1 LX0 LX1 LT0 LT1
              have NE := Aside0.mk (show NeRow (.slice Ay0 y1'.length cy0) (.slice Ay1 y2'.length cy1) from fun k_ e1_ e2_ => (Y0.out.1 k_ e1_) e2_.symm)
              replace HH := Aside0.mk (HH.out.below hB2)
              replace BL := Aside0.mk (blk_below BL.out hB2)
              replace Y0 := Aside0.mk (Kd.R_below (Kd.R_bound Y0.out) hB2)
              replace Y1 := Aside0.mk (Kd.R_below (Kd.R_bound Y1.out) hB2)
              replace SL13 := Aside0.mk (Kd.S_below SL13.out hB2)
              replace HB := Aside0.mk (below_step HB.out hB2)
              replace BX := Aside0.mk (show w16.heap[gx]? = some (.cells #[.slice Ay0 y1'.length cy0, .slice Ay1 y2'.length cy1] 25 (0, 0)) from hbox)
              have ZE := Aside0.mk hB2.size
              clear hbox hkp hB2 B3
              obtain ⟨hcx0, hcx1, hfx0, hfx1⟩ := c2_ BX
              have hLr := (Kd.S_reads' HH.out.hL).2
              have RL := Aside0.mk hLr
              clear hLr
              go_upto_region 13 with (first | ((with_reducible refine gate_callee (f := 72) rfl ?_); refine gL_ (some 58) Try.func72 #[.pointer (some ⟨gO, 0, none⟩), .agg #[.slice Ay0 y1'.length cy0, .slice Ay1 y2'.length cy1]] rfl qa_ ?_; (with_reducible refine (index_calls k1 gO _ _ s'.L _ _ _ _ _ _ y1' _ _ y2' j _ RL.out.2 RL.out.1 (Kd.R_reads' Y0.out).2.2 (Kd.R_reads' Y0.out).2.1 (Kd.R_reads' Y1.out).2.2 (Kd.R_reads' Y1.out).2.1 HH.out.hO AJ.out).mono ?_); rintro e w17 ⟨rfl, hb⟩; refine ⟨_, rfl, ?_⟩; have ZF := Aside0.mk hb.size; replace HH := Aside0.mk (HH.out.below hb); replace BL := bb_ BL hb; replace BX := bb_ BX hb; replace Y0 := Aside0.mk (Kd.R_below Y0.out hb); replace Y1 := Aside0.mk (Kd.R_below Y1.out hb); replace SL13 := Aside0.mk (Kd.S_below SL13.out hb); replace HB := b1_ hb; clear hb))
              clear hcx0 hcx1 hfx0 hfx1 RL
              have ZW := Aside0.mk (show w13.heap.size ≤ w17.heap.size from Nat.le_trans ZD.out (Nat.le_trans ZE.out ZF.out))
              clear ZD ZE ZF
              by_cases hj0 : j < 0
              · have H := HS.out
                clear HS
                rw [if_pos hj0] at H
                have hjb := decide_eq_true hj0
                have hco0 : w17.cell? ⟨gO, 0, none⟩ = some (.slice (some adx) s'.L.length cL') := (blk_cell HH.out.hO 0).trans rfl
                have hfo0 := blk_frozen HH.out.hO 0
                by_cases hq5 : (s'.L.length : Int) = 120
                · rw [if_pos hq5] at H
                  obtain rfl := Option.some.inj H
                  clear H
                  have hzn : z = none := (Option.some.inj HT.out).symm
                  subst hzn
                  have hRn : R = none := (Option.some.inj HR.out).symm
                  subst hRn
                  have e5b : ((s'.L.length : Int) == 120) = true := beq_iff_eq.mpr hq5
                  clear hq5
                  go_wp2
                  go_ret2
                  exact ⟨qb_, hB_⟩
                · rw [if_neg hq5] at H
                  have e5b : ((s'.L.length : Int) == 120) = false := beq_eq_false_iff_ne.mpr hq5
                  clear hq5
                  have hlen := cp_ H
                  replace H := ca_ H
                  have hiW := cp_ H
                  replace H := ca_ H
                  have hsz := cp_ H
                  replace H := Option.some.inj (ca_ H)
                  subst H
                  rw [if_pos rfl, if_pos rfl] at HT
                  have LN := Aside0.mk hlen
                  have LS := Aside0.mk hsz
                  clear hlen hsz
                  go_upto_region 17 with (fail)
                  clear hco0 hfo0 e5b
                  replace HH := Aside0.mk (HH.out.below (below_drew1 (Below.refl _ _)))
                  replace BL := Aside0.mk (blk_drew BL.out)
                  replace BX := Aside0.mk (blk_drew BX.out)
                  replace HB := Aside0.mk (below_drew1 HB.out)
                  replace Y0 := Aside0.mk (Kd.R_bound (Kd.R_drew Y0.out))
                  replace Y1 := Aside0.mk (Kd.R_bound (Kd.R_drew Y1.out))
                  replace SL13 := Aside0.mk (Kd.S_drew SL13.out)
                  replace ZW := Aside0.mk (show w13.heap.size ≤ w17.drew.heap.size from ZW.out)
                  refine start_ (n := 11) (S := fun w' => w'.cell? ⟨gO, 0, none⟩ = some (.slice (some adx) s'.L.length cL') ∧ w'.cell? ⟨gx, 0, none⟩ = some (.slice Ay0 y1'.length cy0) ∧ w'.cell? ⟨gx, 1, none⟩ = some (.slice Ay1 y2'.length cy1)) (ds := [7, 10]) (bl_ 11 0) (by kernel_rfl) rfl (by kernel_rfl) ⟨(blk_cell HH.out.hO 0).trans rfl, (blk_cell BX.out 0).trans rfl, (blk_cell BX.out 1).trans rfl⟩ (fun hHeld => ?_)
                  refine with_tabW orb_tab17 orb_bits17 (fun HT_ HW_ => ?_)
                  generalize w17.drew = wa at HH BL BX HB Y0 Y1 SL13 ZW hHeld ⊢
                  refine pu_ 0 (some 68) (bl_ 11 1) HT_ ?_
                  refine pu_ 1 (some 69) (bl_ 11 3) HT_ ?_
                  refine pu_ 2 (some 70) (bl_ 11 7) HT_ ?_
                  refine pu_ 3 (some 71) (bl_ 11 15) HT_ ?_
                  refine ta_ 4 (some 72) (bl_ 11 31) HT_ HW_ hHeld ?_
                  refine ta_ 5 (some 73) (bl_ 11 63) HT_ HW_ hHeld ?_
                  refine on_ 6 (some 74) (bl_ 11 127) HT_ (fun K hK => ?_)
                  refine value_ (w1 := ?_) (v := ?_) (by rfl) rfl ?_ ?_
                  rotate_left 2
                  · go_simp
                    constructor
                    · rfl
                    · rfl
                  refine hK.out _ _ ⟨((below_alloc (Below.refl _ _) _).cell (World.block_lt_of_cell? _ _ hHeld.1)).trans hHeld.1, ((below_alloc (Below.refl _ _) _).cell (World.block_lt_of_cell? _ _ hHeld.2.1)).trans hHeld.2.1, ((below_alloc (Below.refl _ _) _).cell (World.block_lt_of_cell? _ _ hHeld.2.2)).trans hHeld.2.2⟩ (fun hHeld => ?_)
                  clear hK K
                  refine no_ (some 74) ?_
                  refine last_ (i := 7) (N := some 75) (bl_ 11 255) rfl rfl (one_of HT_.out (by kernel_rfl)) (by decide) (fun K hK => ?_)
                  refine Kd.S_append_step k25 (w0 := w) w.heap.size (by rfl) (.tmp 72) (.tmp 74) 36 25 (.agg #[(.slice none 0 0), (.slice none 0 0)]) 48 rfl Try.underlying36 info25 rfl (by decide) (by omega) (.slice (some adx) s'.L.length cL') s'.L (⟨y1', y2'⟩ : S25) [.slice Ay0 y1'.length cy0, .slice Ay1 y2'.length cy1] (fun k_ => rcl wa.heap.size (rcl w13.heap.size col' 0) 0 k_ = 0) (fun k_ => w13.heap.size ≤ k_ ∧ k_ < wa.heap.size) rfl rfl ?aP ?aQ (fun k_ hk => rcl_new hk) ?aO HB.out HB.out.size (by have := LN.out; omega) ?_
                  case aP => exact k25_mkM _ _ _ (⟨y1', y2'⟩ : S25) (Kd.R_mono (Kd.R_lower Y0.out ZC.out) (fun k_ hk => ⟨hk.2.1, hk.2.2.1⟩)) (Kd.R_mono (Kd.R_lower Y1.out ZC.out) (fun k_ hk => ⟨hk.2.1, hk.2.2.1⟩)) NE.out
                  case aQ => exact fun k_ hk => ⟨(rcl_old hk.2).trans (rcl_new hk.1), fun e => by have := ((Kd.S_R SL13.out).1 k_ e.symm).2; have := hk.1; omega⟩
                  case aO => exact Kd.S_mono SL13.out (fun k_ hk => ⟨(rcl_old (Nat.lt_of_lt_of_le hk.2 ZW.out)).trans ((rcl_old hk.2).trans hk.1), fun h_ => by have := hk.2; have := h_.1; omega⟩)
                  intro v1 wb ho hb hg hat
                  obtain ⟨An1, cn1, en1⟩ := Kd.S_slice ho
                  subst en1
                  have HO19 := (B_gr HH.out.hO HH.out.cO hg (Kd.S_R HH.out.hL).1 (by decide)).1
                  have HC3 := Aside0.mk (B_gr BL.out HC.out hg (Kd.S_R HH.out.hL).1 (by decide))
                  have HP := HH.out.putL hg ho
                  have HB2 := Aside0.mk hb
                  refine hK.out _ _ ?_
                  clear hK K ho hb hg hat SL13 Y0 Y1 BX NE GX
                  refine no_ (some 75) ?_
                  refine pu_ 8 (some 76) (bl_ 11 511) HT_ ?_
                  refine pu_ 9 (some 77) (bl_ 11 1023) HT_ ?_
                  refine last_ (i := 10) (N := none) (bl_ 11 2047) rfl rfl (one_of HT_.out (by kernel_rfl)) (by decide) (fun K hK => ?_)
                  have hs19 : wb.cell? ⟨gO, 0, none⟩ = some (.slice (some adx) s'.L.length cL') := (blk_cell HO19 0).trans rfl
                  have hf19 := blk_frozen HO19 0
                  refine skip_ (w1 := wb.setCell ⟨gO, 0, none⟩ (.slice An1 (s'.L ++ [(⟨y1', y2'⟩ : S25)]).length cn1)) (by rfl) rfl ?_ ?_
                  · go_simp
                  refine hK.out _ _ ?_
                  clear hK K hs19 hf19
                  refine done_ (done_of HT_.out (by kernel_rfl)) ?_
                  have hne_ : gl ≠ gO := fun e => by have a1 := HC3.out.2; have a2 := HP.cO; rw [e] at a1; omega
                  have HB3 := Aside0.mk (below_set (g := gO) (j := 0) (v := (.slice An1 (s'.L ++ [(⟨y1', y2'⟩ : S25)]).length cn1)) HB2.out HP.bO)
                  have BL2 := Aside0.mk (put_far HC3.out.1 hne_ 0 (.slice An1 (s'.L ++ [(⟨y1', y2'⟩ : S25)]).length cn1))
                  have HCN := HC3.out.2
                  clear HH BL HB HC HC3 HB2 HO19
                  generalize hwc : wb.setCell ⟨gO, 0, none⟩ (.slice An1 (s'.L ++ [(⟨y1', y2'⟩ : S25)]).length cn1) = wc at HP HB3 BL2 ⊢
                  clear hwc
                  obtain ⟨colwc, hh_, hc_⟩ : ∃ c_, OrbH w.heap.size c_ wc gO gM n' _ _ _ _ _ _ _ ∧ c_ gl = 8 := ⟨_, HP, HCN⟩
                  have HH := Aside0.mk hh_; have HC := Aside0.mk hc_; have BL := BL2; have HB := HB3
                  clear hh_ hc_ BL2 HB3 HP HCN hne_
                  obtain ⟨AW, cW, eW⟩ := Kd.R_slice HH.out.hW
                  subst eW
                  go_upto_region 18 with (fail)
                  replace HH := Aside0.mk (HH.out.below (below_drew1 (Below.refl _ _)))
                  replace BL := Aside0.mk (blk_drew BL.out)
                  replace HB := Aside0.mk (below_drew1 HB.out)
                  obtain ⟨adw, ew, hxw⟩ := Kd.at_string (Kd.R_reads' HH.out.hW).2.2 x7 hi0 hiW
                  cases ew
                  have tw1 := eq_true hiW
                  have tw2 := decide_eq_true hiW
                  refine start_ (n := 21) (S := fun w' => w'.cell? ⟨gO, 1, none⟩ = some (.slice (some adw) s'.W.length cW) ∧ w'.cell? (adw.add (x7).toNat) = some (.string (rdOf ByteArray.empty s'.W x7))) (ds := [17, 20]) (bl_ 21 0) (by kernel_rfl) rfl (by kernel_rfl) ⟨(blk_cell HH.out.hO 1).trans rfl, hxw⟩ (fun hHeld => ?_)
                  refine with_tabW orb_tab18 orb_bits18 (fun HT_ HW_ => ?_)
                  clear hxw
                  generalize wc.drew = wd at HH BL HB hHeld ⊢
                  refine pu_ 0 (some 78) (bl_ 21 1) HT_ ?_
                  refine pu_ 1 (some 79) (bl_ 21 3) HT_ ?_
                  refine pu_ 2 (some 80) (bl_ 21 7) HT_ ?_
                  refine pu_ 3 (some 81) (bl_ 21 15) HT_ ?_
                  refine ta_ 4 (some 82) (bl_ 21 31) HT_ HW_ hHeld ?_
                  refine pu_ 5 (some 83) (bl_ 21 63) HT_ ?_
                  refine pu_ 6 (some 84) (bl_ 21 127) HT_ ?_
                  refine pu_ 7 (some 85) (bl_ 21 255) HT_ ?_
                  refine ta_ 8 (some 86) (bl_ 21 511) HT_ HW_ hHeld ?_
                  refine pu_ 9 (some 87) (bl_ 21 1023) HT_ ?_
                  refine pu_ 10 (some 88) (bl_ 21 2047) HT_ ?_
                  refine ta_ 11 (some 89) (bl_ 21 4095) HT_ HW_ hHeld ?_
                  refine pu_ 12 (some 90) (bl_ 21 8191) HT_ ?_
                  refine on_ 13 (some 91) (bl_ 21 16383) HT_ (fun K hK => ?_)
                  refine Kd.R_lit_step (Kd.int .u8) _ 5 ?hg (N := 91) ?hd (xs := ([84] : List Int)) (inner := [.int .u8 84]) (ok := fun _ => True) (okp := fun _ => True) ?hr ?hp (fun _ hk => hk) trivial (Below.refl _ _) (Nat.le_refl _) (by simp) ?_; (case hd => rfl); (case hg => rfl); (case hr => first | (go_simp; done) | (go_simp; rfl)); (case hp => exact (Reps.one (show Kd.M (Kd.int .u8) _ _ _ 84 [.int .u8 84] from rfl) (Reps.none _ _)))
                  intro vq we hoq hb hg_ hnew_
                  have hS1_ := (hb.cell (World.block_lt_of_cell? _ _ hHeld.1)).trans hHeld.1
                  have hS2_ := (hb.cell (World.block_lt_of_cell? _ _ hHeld.2)).trans hHeld.2
                  replace HH := Aside0.mk (HH.out.below hb)
                  replace BL := bb_ BL hb
                  replace HB := b1_ hb
                  have HOq := Aside0.mk hoq
                  clear hg_ hnew_ hb hoq
                  refine hK.out _ _ ⟨hS1_, hS2_⟩ (fun hHeld => ?_)
                  clear hK K hS1_ hS2_
                  refine no_ (some 91) ?_
                  refine on_ 14 (some 92) (bl_ 21 32767) HT_ (fun K hK => ?_)
                  have hcv47 := own_string (P := Try.prog) Try.underlying22 Try.underlying5 Try.underlying9 (Kd.own_of_R HOq.out)
                  refine value_ (w1 := ?_) (v := ?_) (by rfl) rfl ?_ ?_
                  rotate_left 2
                  · go_simp
                    constructor
                    · rfl
                    · rfl
                  clear hcv47 HOq
                  refine hK.out _ _ hHeld (fun hHeld => ?_)
                  clear hK K
                  refine no_ (some 92) ?_
                  have hs1_ : (strOfNums [(84 : Int)]).size = 1 := by decide +kernel
                  have tw3 : (9223372036854775807 < (rdOf ByteArray.empty s'.W x7).size + (strOfNums [(84 : Int)]).size) = False := eq_false (by rw [hs1_]; have := LS.out; omega)
                  clear hs1_
                  refine pu_ 15 (some 93) (bl_ 21 65535) HT_ ?_
                  clear tw3
                  refine on_ 16 (some 94) (bl_ 21 131071) HT_ (fun K hK => ?_)
                  refine value_ (w1 := ?_) (v := ?_) (by rfl) rfl ?_ ?_
                  rotate_left 2
                  · go_simp
                    constructor
                    · rfl
                    · rfl
                  refine hK.out _ _ ⟨((below_alloc (Below.refl _ _) _).cell (World.block_lt_of_cell? _ _ hHeld.1)).trans hHeld.1, ((below_alloc (Below.refl _ _) _).cell (World.block_lt_of_cell? _ _ hHeld.2)).trans hHeld.2⟩ (fun hHeld => ?_)
                  clear hK K
                  refine no_ (some 94) ?_
                  refine last_ (i := 17) (N := some 95) (bl_ 21 262143) rfl rfl (one_of HT_.out (by kernel_rfl)) (by decide) (fun K hK => ?_)
                  refine Kd.R_append_step Kd.string (w0 := w) w.heap.size (by rfl) (.tmp 82) (.tmp 94) 53 9 (.string ⟨#[]⟩) 16 rfl Try.underlying53 info9 rfl (by decide) (by omega) (.slice (some adw) s'.W.length cW) s'.W ((rdOf ByteArray.empty s'.W x7) ++ (strOfNums [84])) [.string ((rdOf ByteArray.empty s'.W x7) ++ (strOfNums [84]))] (fun k_ => rcl we.heap.size colwc 1 k_ = 1) (fun _ => False) rfl rfl rfl (fun _ hk => hk.elim) (fun k_ hk => rcl_new hk) (R_col HH.out.hW (fun k_ hk => rcl_old hk)) HB.out HB.out.size (by have := LN.out; omega) ?_
                  intro v2 wf ho hb hg hat
                  obtain ⟨An2, cn2, en2⟩ := Kd.R_slice ho
                  subst en2
                  have HO19 := (B_gr HH.out.hO HH.out.cO hg HH.out.hW.1 (by decide)).1
                  have HC3 := Aside0.mk (B_gr BL.out HC.out hg HH.out.hW.1 (by decide))
                  have HP := HH.out.putW hg ho
                  have HB2 := Aside0.mk hb
                  refine hK.out _ _ ?_
                  clear hK K ho hb hg hat
                  refine no_ (some 95) ?_
                  refine pu_ 18 (some 96) (bl_ 21 524287) HT_ ?_
                  refine pu_ 19 (some 97) (bl_ 21 1048575) HT_ ?_
                  refine last_ (i := 20) (N := none) (bl_ 21 2097151) rfl rfl (one_of HT_.out (by kernel_rfl)) (by decide) (fun K hK => ?_)
                  have hs19 : wf.cell? ⟨gO, 1, none⟩ = some (.slice (some adw) s'.W.length cW) := (blk_cell HO19 1).trans rfl
                  have hf19 := blk_frozen HO19 1
                  refine skip_ (w1 := wf.setCell ⟨gO, 1, none⟩ (.slice An2 (s'.W ++ [(rdOf ByteArray.empty s'.W x7) ++ (strOfNums [84])]).length cn2)) (by rfl) rfl ?_ ?_
                  · go_simp
                  refine hK.out _ _ ?_
                  clear hK K hs19 hf19
                  refine done_ (done_of HT_.out (by kernel_rfl)) ?_
                  have hne_ : gl ≠ gO := fun e => by have a1 := HC3.out.2; have a2 := HP.cO; rw [e] at a1; omega
                  have HB3 := Aside0.mk (below_set (g := gO) (j := 1) (v := (.slice An2 (s'.W ++ [(rdOf ByteArray.empty s'.W x7) ++ (strOfNums [84])]).length cn2)) HB2.out HP.bO)
                  have BL2 := Aside0.mk (put_far HC3.out.1 hne_ 1 (.slice An2 (s'.W ++ [(rdOf ByteArray.empty s'.W x7) ++ (strOfNums [84])]).length cn2))
                  have HCN := HC3.out.2
                  clear HH BL HB HC HC3 HB2 HO19
                  generalize hwc : wf.setCell ⟨gO, 1, none⟩ (.slice An2 (s'.W ++ [(rdOf ByteArray.empty s'.W x7) ++ (strOfNums [84])]).length cn2) = wg at HP HB3 BL2 ⊢
                  clear hwc
                  obtain ⟨colwg, hh_, hc_⟩ : ∃ c_, OrbH w.heap.size c_ wg gO gM n' _ _ _ _ _ _ _ ∧ c_ gl = 8 := ⟨_, HP, HCN⟩
                  have HH := Aside0.mk hh_; have HC := Aside0.mk hc_; have BL := BL2; have HB := HB3
                  clear hh_ hc_ BL2 HB3 HP HCN hne_
                  obtain ⟨AF, cF, eF⟩ := Kd.R_slice HH.out.hF
                  subst eF
                  go_upto_region 19 with (fail)
                  have hco_ : wg.cell? ⟨gO, 2, none⟩ = some (.slice AF s'.F.length cF) := (blk_cell HH.out.hO 2).trans rfl
                  have hfo_ := blk_frozen HH.out.hO 2
                  go_upto_region 20 with (first | ((with_reducible refine gate_builtin (b := .append) (xs := #[.tmp 102, .tmp 104]) rfl ?_); at_builtin; refine Kd.R_append (Kd.int .i64) (w0 := w) w.heap.size rfl (.tmp 102) (.tmp 104) 23 3 (.int .i64 0) 8 rfl Try.underlying23 info3 rfl (by decide) (by omega) (.slice AF s'.F.length cF) s'.F (x7) [.int .i64 (x7)] (fun k_ => rcl wg.heap.size colwg 2 k_ = 2) (fun _ => False) rfl rfl rfl (fun _ hk => hk.elim) (fun k_ hk => rcl_new hk) (R_col HH.out.hF (fun k_ hk => rcl_old hk)) HB.out HB.out.size (by have := LN.out; omega) ?_; intro v3 wh ho hb hg hat; obtain ⟨Anv3, cnv3, env3⟩ := Kd.R_slice ho; subst env3; rw [List.length_append, List.length_singleton] at ho; have HO19 := (B_gr HH.out.hO HH.out.cO hg HH.out.hF.1 (by decide)).1; have HC3 := Aside0.mk (B_gr BL.out HC.out hg HH.out.hF.1 (by decide)); have HP := HH.out.putF hg ho; have HB2 := Aside0.mk hb; clear ho hb hg hat hco_ hfo_; have hs19 : wh.cell? ⟨gO, 2, none⟩ = some (.slice AF s'.F.length cF) := (blk_cell HO19 2).trans rfl; have hf19 := blk_frozen HO19 2))
                  clear hs19 hf19
                  have hne_ : gl ≠ gO := fun e => by have a1 := HC3.out.2; have a2 := HP.cO; rw [e] at a1; omega
                  have HB3 := Aside0.mk (below_set (g := gO) (j := 2) (v := (.slice Anv3 (s'.F.length + 1) cnv3)) HB2.out HP.bO)
                  have BL2 := Aside0.mk (put_far HC3.out.1 hne_ 2 (.slice Anv3 (s'.F.length + 1) cnv3))
                  have HCN := HC3.out.2
                  clear HH BL HB HC HC3 HB2 HO19
                  generalize hwc : wh.setCell ⟨gO, 2, none⟩ (.slice Anv3 (s'.F.length + 1) cnv3) = wi at HP HB3 BL2 ⊢
                  clear hwc
                  obtain ⟨colwi, hh_, hc_⟩ : ∃ c_, OrbH w.heap.size c_ wi gO gM n' _ _ _ _ _ _ _ ∧ c_ gl = 8 := ⟨_, HP, HCN⟩
                  have HH := Aside0.mk hh_; have HC := Aside0.mk hc_; have BL := BL2; have HB := HB3
                  clear hh_ hc_ BL2 HB3 HP HCN hne_
                  obtain ⟨AB, cB, eB⟩ := Kd.R_slice HH.out.hB
                  subst eB
                  have hco_ : wi.cell? ⟨gO, 3, none⟩ = some (.slice AB s'.B.length cB) := (blk_cell HH.out.hO 3).trans rfl
                  have hfo_ := blk_frozen HH.out.hO 3
                  go_upto_region 21 with (first | ((with_reducible refine gate_builtin (b := .append) (xs := #[.tmp 112, .tmp 114]) rfl ?_); at_builtin; refine Kd.R_append (Kd.int .u8) (w0 := w) w.heap.size rfl (.tmp 112) (.tmp 114) 22 5 (.int .u8 0) 1 rfl Try.underlying22 info5 rfl (by decide) (by omega) (.slice AB s'.B.length cB) s'.B (84) [.int .u8 (84)] (fun k_ => rcl wi.heap.size colwi 3 k_ = 3) (fun _ => False) rfl rfl rfl (fun _ hk => hk.elim) (fun k_ hk => rcl_new hk) (R_col HH.out.hB (fun k_ hk => rcl_old hk)) HB.out HB.out.size (by have := LN.out; omega) ?_; intro v4 wj ho hb hg hat; obtain ⟨Anv4, cnv4, env4⟩ := Kd.R_slice ho; subst env4; rw [List.length_append, List.length_singleton] at ho; have HO19 := (B_gr HH.out.hO HH.out.cO hg HH.out.hB.1 (by decide)).1; have HC3 := Aside0.mk (B_gr BL.out HC.out hg HH.out.hB.1 (by decide)); have HP := HH.out.putB hg ho; have HB2 := Aside0.mk hb; clear ho hb hg hat hco_ hfo_; have hs19 : wj.cell? ⟨gO, 3, none⟩ = some (.slice AB s'.B.length cB) := (blk_cell HO19 3).trans rfl; have hf19 := blk_frozen HO19 3))
                  clear hs19 hf19
                  have hne_ : gl ≠ gO := fun e => by have a1 := HC3.out.2; have a2 := HP.cO; rw [e] at a1; omega
                  have HB3 := Aside0.mk (below_set (g := gO) (j := 3) (v := (.slice Anv4 (s'.B.length + 1) cnv4)) HB2.out HP.bO)
                  have BL2 := Aside0.mk (put_far HC3.out.1 hne_ 3 (.slice Anv4 (s'.B.length + 1) cnv4))
                  have HCN := HC3.out.2
                  clear HH BL HB HC HC3 HB2 HO19
                  generalize hwc : wj.setCell ⟨gO, 3, none⟩ (.slice Anv4 (s'.B.length + 1) cnv4) = wk at HP HB3 BL2 ⊢
                  clear hwc
                  obtain ⟨colwk, hh_, hc_⟩ : ∃ c_, OrbH w.heap.size c_ wk gO gM n' _ _ _ _ _ _ _ ∧ c_ gl = 8 := ⟨_, HP, HCN⟩
                  have HH := Aside0.mk hh_; have HC := Aside0.mk hc_; have BL := BL2; have HB := HB3
                  clear hh_ hc_ BL2 HB3 HP HCN hne_
                  generalize hcc : colwk = colc at HH HC
                  clear hcc
                  go_upto_region 21 with (fail)
                  replace HH := Aside0.mk (HH.out.below (below_drew1 (Below.refl _ _)))
                  replace BL := Aside0.mk (blk_drew BL.out)
                  replace HB := Aside0.mk (below_drew1 HB.out)
                  refine start_ (n := 15) (S := fun w' => w'.cell? ⟨gO, 4, none⟩ = some (.map (some gM)) ∧ w'.heap[gM]? = some (mapO n' vT' vS')) (ds := [14]) (bl_ 15 0) (by kernel_rfl) rfl (by kernel_rfl) ⟨(blk_cell HH.out.hO 4).trans rfl, HH.out.hM⟩ (fun hHeld => ?_)
                  refine with_tabW orb_tab21 orb_bits21 (fun HT_ HW_ => ?_)
                  generalize wk.drew = wl at HH BL HB hHeld ⊢
                  refine pu_ 0 (some 118) (bl_ 15 1) HT_ ?_
                  refine pu_ 1 (some 119) (bl_ 15 3) HT_ ?_
                  refine pu_ 2 (some 120) (bl_ 15 7) HT_ ?_
                  refine ta_ 3 (some 121) (bl_ 15 15) HT_ HW_ hHeld ?_
                  refine pu_ 4 (some 122) (bl_ 15 31) HT_ ?_
                  refine pu_ 5 (some 123) (bl_ 15 63) HT_ ?_
                  refine pu_ 6 (some 124) (bl_ 15 127) HT_ ?_
                  refine pu_ 7 (some 125) (bl_ 15 255) HT_ ?_
                  refine ta_ 8 (some 126) (bl_ 15 511) HT_ HW_ hHeld ?_
                  refine pu_ 9 (some 127) (bl_ 15 1023) HT_ ?_
                  have hlk : ∀ w', w'.heap[gM]? = some (mapO n' vT' vS') → (Instr.lookup 67 (.map (some gM)) (.int .u8 84) false).run Try.prog w' = .ok vT' w' := fun w' h_ => by
                    have hn := hn0.out
                    have := look_T h_ (by omega)
                    rw [HH.out.look.1] at this
                    exact this
                  refine ta_ 10 (some 128) (v := vT') (bl_ 15 2047) HT_ HW_ hHeld ?_ (hy := Or.inl ⟨by rfl, fun w' hs_ => ?_⟩)
                  rotate_left
                  · have hq := hlk w' hs_.2
                    go_simp
                  clear hlk
                  refine pu_ 11 (some 129) (bl_ 15 4095) HT_ ?_
                  refine on_ 12 (some 130) (bl_ 15 8191) HT_ (fun K hK => ?_)
                  refine value_ (w1 := ?_) (v := ?_) (by rfl) rfl ?_ ?_
                  rotate_left 2
                  · go_simp
                    constructor
                    · rfl
                    · rfl
                  refine hK.out _ _ ⟨((below_alloc (Below.refl _ _) _).cell (World.block_lt_of_cell? _ _ hHeld.1)).trans hHeld.1, blk_alloc hHeld.2 _⟩ (fun hHeld => ?_)
                  clear hK K
                  refine no_ (some 130) ?_
                  refine on_ 13 (some 131) (bl_ 15 16383) HT_ (fun K hK => ?_)
                  refine Kd.R_append_step (Kd.int .i64) (w0 := w) w.heap.size (by rfl) (.tmp 128) (.tmp 130) 23 3 (.int .i64 0) 8 rfl Try.underlying23 info3 rfl (by decide) (by omega) vT' s'.T ((s'.L.length : Int)) [.int .i64 ((s'.L.length : Int))] (fun k_ => rcl wl.heap.size colc 4 k_ = 4) (fun _ => False) rfl rfl rfl (fun _ hk => hk.elim) (fun k_ hk => rcl_new hk) (R_col HH.out.hT (fun k_ hk => rcl_old hk)) HB.out HB.out.size (by have := LN.out; omega) ?_
                  intro v1 wlb ho hb hg hat
                  have HP := HH.out.putT hg ho
                  have HM := Aside0.mk HP.1
                  have HO19 := (B_gr HH.out.hO HH.out.cO hg HH.out.hT.1 (by decide)).1
                  have HC3 := Aside0.mk (B_gr BL.out HC.out hg HH.out.hT.1 (by decide))
                  replace HH := Aside0.mk HP.2
                  clear HP
                  have HB2 := Aside0.mk hb
                  refine hK.out _ _ ⟨(blk_cell HO19 4).trans rfl, HM.out⟩ (fun hHeld => ?_)
                  clear hK K ho hb hg hat HO19
                  refine no_ (some 131) ?_
                  refine last_ (i := 14) (N := none) (bl_ 15 32767) rfl rfl (one_of HT_.out (by kernel_rfl)) (by decide) (fun K hK => ?_)
                  have hput : (Instr.mapUpdate 67 (.map (some gM)) (.int .u8 84) v1).run Try.prog wlb = .ok () (setMap wlb gM (max n' 1) v1 vS') := put_T HM.out hn0.out v1
                  refine skip_ (w1 := setMap wlb gM (max n' 1) v1 vS') (by rfl) rfl ?_ ?_
                  · go_simp
                  refine hK.out _ _ ?_
                  clear hK K hput
                  refine done_ (done_of HT_.out (by kernel_rfl)) ?_
                  try go_wp2
                  have hgm : gl ≠ gM := fun e => by have a1 := HC3.out.2; have a2 := HH.out.cM; rw [e] at a1; omega
                  have BL2 := Aside0.mk ((setMap_far (n := max n' 1) v1 vS' hgm).trans HC3.out.1)
                  have HB3 := Aside0.mk (setMap_below (n := max n' 1) v1 vS' HB2.out HH.out.bM)
                  go_roundg 1
                  case measure => have := HG.out; omega
                  case rel => exact ⟨1, max n' 1, _, _, _, _, _, _, _, _, (by first | rfl | (simp; done) | (simp [*]; done)), ⟨by omega⟩, ⟨by omega⟩, HT, ⟨⟨fun e => absurd e (by decide), fun _ => by have := hn0.out; omega, fun e => absurd e (by decide)⟩⟩, ⟨HC3.out.2⟩, BL2, HH, HB3⟩
              · have H := HS.out
                clear HS
                rw [if_neg hj0] at H
                have hjb := decide_eq_false hj0
                have hlen := cp_ H
                replace H := Option.some.inj (ca_ H)
                subst H
                rw [if_pos rfl, if_pos rfl] at HT
                have LN := Aside0.mk hlen
                clear hlen SL13 Y0 Y1 BX NE GX
                generalize hcc : rcl w13.heap.size col' 0 = colc at HH HC
                clear hcc
                go_upto_region 21 with (fail)
                replace HH := Aside0.mk (HH.out.below (below_drew1 (Below.refl _ _)))
                replace BL := Aside0.mk (blk_drew BL.out)
                replace HB := Aside0.mk (below_drew1 HB.out)
                refine start_ (n := 15) (S := fun w' => w'.cell? ⟨gO, 4, none⟩ = some (.map (some gM)) ∧ w'.heap[gM]? = some (mapO n' vT' vS')) (ds := [14]) (bl_ 15 0) (by kernel_rfl) rfl (by kernel_rfl) ⟨(blk_cell HH.out.hO 4).trans rfl, HH.out.hM⟩ (fun hHeld => ?_)
                refine with_tabW orb_tab21 orb_bits21 (fun HT_ HW_ => ?_)
                generalize w17.drew = w18 at HH BL HB hHeld ⊢
                refine pu_ 0 (some 118) (bl_ 15 1) HT_ ?_
                refine pu_ 1 (some 119) (bl_ 15 3) HT_ ?_
                refine pu_ 2 (some 120) (bl_ 15 7) HT_ ?_
                refine ta_ 3 (some 121) (bl_ 15 15) HT_ HW_ hHeld ?_
                refine pu_ 4 (some 122) (bl_ 15 31) HT_ ?_
                refine pu_ 5 (some 123) (bl_ 15 63) HT_ ?_
                refine pu_ 6 (some 124) (bl_ 15 127) HT_ ?_
                refine pu_ 7 (some 125) (bl_ 15 255) HT_ ?_
                refine ta_ 8 (some 126) (bl_ 15 511) HT_ HW_ hHeld ?_
                refine pu_ 9 (some 127) (bl_ 15 1023) HT_ ?_
                have hlk : ∀ w', w'.heap[gM]? = some (mapO n' vT' vS') → (Instr.lookup 67 (.map (some gM)) (.int .u8 84) false).run Try.prog w' = .ok vT' w' := fun w' h_ => by
                  have hn := hn0.out
                  have := look_T h_ (by omega)
                  rw [HH.out.look.1] at this
                  exact this
                refine ta_ 10 (some 128) (v := vT') (bl_ 15 2047) HT_ HW_ hHeld ?_ (hy := Or.inl ⟨by rfl, fun w' hs_ => ?_⟩)
                rotate_left
                · have hq := hlk w' hs_.2
                  go_simp
                clear hlk
                refine pu_ 11 (some 129) (bl_ 15 4095) HT_ ?_
                refine on_ 12 (some 130) (bl_ 15 8191) HT_ (fun K hK => ?_)
                refine value_ (w1 := ?_) (v := ?_) (by rfl) rfl ?_ ?_
                rotate_left 2
                · go_simp
                  constructor
                  · rfl
                  · rfl
                refine hK.out _ _ ⟨((below_alloc (Below.refl _ _) _).cell (World.block_lt_of_cell? _ _ hHeld.1)).trans hHeld.1, blk_alloc hHeld.2 _⟩ (fun hHeld => ?_)
                clear hK K
                refine no_ (some 130) ?_
                refine on_ 13 (some 131) (bl_ 15 16383) HT_ (fun K hK => ?_)
                refine Kd.R_append_step (Kd.int .i64) (w0 := w) w.heap.size (by rfl) (.tmp 128) (.tmp 130) 23 3 (.int .i64 0) 8 rfl Try.underlying23 info3 rfl (by decide) (by omega) vT' s'.T (j) [.int .i64 (j)] (fun k_ => rcl w18.heap.size colc 4 k_ = 4) (fun _ => False) rfl rfl rfl (fun _ hk => hk.elim) (fun k_ hk => rcl_new hk) (R_col HH.out.hT (fun k_ hk => rcl_old hk)) HB.out HB.out.size (by have := LN.out; omega) ?_
                intro v1 w18b ho hb hg hat
                have HP := HH.out.putT hg ho
                have HM := Aside0.mk HP.1
                have HO19 := (B_gr HH.out.hO HH.out.cO hg HH.out.hT.1 (by decide)).1
                have HC3 := Aside0.mk (B_gr BL.out HC.out hg HH.out.hT.1 (by decide))
                replace HH := Aside0.mk HP.2
                clear HP
                have HB2 := Aside0.mk hb
                refine hK.out _ _ ⟨(blk_cell HO19 4).trans rfl, HM.out⟩ (fun hHeld => ?_)
                clear hK K ho hb hg hat HO19
                refine no_ (some 131) ?_
                refine last_ (i := 14) (N := none) (bl_ 15 32767) rfl rfl (one_of HT_.out (by kernel_rfl)) (by decide) (fun K hK => ?_)
                have hput : (Instr.mapUpdate 67 (.map (some gM)) (.int .u8 84) v1).run Try.prog w18b = .ok () (setMap w18b gM (max n' 1) v1 vS') := put_T HM.out hn0.out v1
                refine skip_ (w1 := setMap w18b gM (max n' 1) v1 vS') (by rfl) rfl ?_ ?_
                · go_simp
                refine hK.out _ _ ?_
                clear hK K hput
                refine done_ (done_of HT_.out (by kernel_rfl)) ?_
                try go_wp2
                have hgm : gl ≠ gM := fun e => by have a1 := HC3.out.2; have a2 := HH.out.cM; rw [e] at a1; omega
                have BL2 := Aside0.mk ((setMap_far (n := max n' 1) v1 vS' hgm).trans HC3.out.1)
                have HB3 := Aside0.mk (setMap_below (n := max n' 1) v1 vS' HB2.out HH.out.bM)
                go_roundg 1
                case measure => have := HG.out; omega
                case rel => exact ⟨1, max n' 1, _, _, _, _, _, _, _, _, (by first | rfl | (simp; done) | (simp [*]; done)), ⟨by omega⟩, ⟨by omega⟩, HT, ⟨⟨fun e => absurd e (by decide), fun _ => by have := hn0.out; omega, fun e => absurd e (by decide)⟩⟩, ⟨HC3.out.2⟩, BL2, HH, HB3⟩
            · skip
              have hn0 := Aside0.mk (HN.out.2.1 rfl)
              have H := AZ.out
              clear AZ
              change innerO k1 x7 (83 :: []) s' = some z at H
              simp only [innerO] at H
              obtain ⟨zz, AS, H⟩ := bi_ H
              have HT := Aside0.mk H
              have H := AS.out
              clear AS
              unfold stpO at H
              have hi0 := cp_ H
              replace H := ca_ H
              have hi1 := cp_ H
              replace H := ca_ H
              obtain ⟨⟨x1, x2⟩, AX, H⟩ := bi_ H
              obtain ⟨⟨y1', y2', yb⟩, AY, H⟩ := bi_ H
              obtain ⟨j, AJ, H⟩ := bi_ H
              dsimp only at H AY AJ
              have HS := Aside0.mk H
              clear H
              obtain ⟨adx, Ax0, cx0, Ax1, cx1, ex, hx0, hx1, hlx0, hix0, hlx1, hix1⟩ := at_T25 (Kd.S_reads' HH.out.hL).2.2 x7 hi0 hi1
              cases ex
              have X0 := Aside0.mk hix0; have X1 := Aside0.mk hix1; have LX0 := Aside0.mk hlx0; have LX1 := Aside0.mk hlx1
              clear hix0 hix1 hlx0 hlx1
              have ti0 := eq_true hi0
              have ti1 := eq_true hi1
              have td1 := decide_eq_true hi1
              go_upto_region 12 with (first | ((with_reducible refine gate_callee (f := 63) rfl ?_); refine gL_ (some 52) Try.func63 #[.agg #[.slice Ax0 (rd_T25 s'.L x7).f0.length cx0, .slice Ax1 (rd_T25 s'.L x7).f1.length cx1], .int .u8 83] rfl qa_ ?_; (with_reducible refine (impl_letterSurface.calls k1 _ _ (rd_T25 s'.L x7).f0 _ _ (rd_T25 s'.L x7).f1 83 x1 x2 _ X0.out LX0.out X1.out LX1.out AX.out).mono ?_); rintro e w13 ⟨v0, v1, rfl, ho0, ho1, hb⟩; refine ⟨_, rfl, ?_⟩; replace HH := Aside0.mk (HH.out.below hb); replace BL := bb_ BL hb; replace HB := b1_ hb; clear hb; obtain ⟨Al0, cl0, el0⟩ := Kd.R_slice ho0; subst el0; obtain ⟨Al1, cl1, el1⟩ := Kd.R_slice ho1; subst el1; have LT0 := Aside0.mk (Kd.R_reads' ho0).2; have LT1 := Aside0.mk (Kd.R_reads' ho1).2; clear ho0 ho1) | ((with_reducible refine gate_callee (f := 28) rfl ?_); refine gL_ (some 53) Try.func28 #[.agg #[.slice Al0 x1.length cl0, .slice Al1 x2.length cl1]] rfl qa_ ?_; (with_reducible refine (impl_CanonOf.calls k1 _ _ x1 _ _ x2 y1' y2' yb _ LT0.out.2 LT0.out.1 LT1.out.2 LT1.out.1 AY.out).mono ?_); rintro e w14 ⟨v0, v1, rfl, ho0, ho1, hb⟩; refine ⟨_, rfl, ?_⟩; have ZC := Aside0.mk (below_size hB_ : w.heap.size ≤ w13.heap.size); have ZD := Aside0.mk hb.size; have SL13 := Aside0.mk (Kd.S_below (Kd.S_mono (ok' := fun k_ => col' k_ = 0 ∧ k_ < w13.heap.size) (Kd.S_bound HH.out.hL) (fun k_ hk_ => ⟨hk_.1, hk_.2.2.1⟩)) hb); replace HH := Aside0.mk ((HH.out.recol (col' := rcl w13.heap.size col' 0) (fun k hk => rcl_old hk)).below hb); replace HC := Aside0.mk ((rcl_old (blk_lt BL.out)).trans HC.out : rcl w13.heap.size col' 0 gl = 8); replace BL := bb_ BL hb; replace HB := b1_ hb; clear hb; obtain ⟨Ay0, cy0, ey0⟩ := Kd.R_slice ho0; subst ey0; obtain ⟨Ay1, cy1, ey1⟩ := Kd.R_slice ho1; subst ey1; have Y0 := Aside0.mk ho0; have Y1 := Aside0.mk ho1; clear ho0 ho1) | ((with_reducible refine gate_dst (N := 10) rfl ?_); refine bx_ 10 #[.slice none 0 0, .slice none 0 0] 25 ?_; intro gx hg w15 hbox hb; have GX := Aside0.mk (show w14.heap.size ≤ gx from Nat.le_of_eq hg.symm); have BX := Aside0.mk hbox; have B3 := Aside0.mk hb; clear hb hbox hg; obtain ⟨hcf0, hcf1, hff0, hff1⟩ := c2_ BX))
              obtain ⟨hbox, hkp, hB2⟩ := box_store (w0 := w14) BX.out (.slice Ay0 y1'.length cy0) (.slice Ay1 y2'.length cy1) B3.out GX.out
              generalize hw : ((w15.setCell ⟨gx, 0, none⟩ (.slice Ay0 y1'.length cy0)).setCell ⟨gx, 1, none⟩ (.slice Ay1 y2'.length cy1)) = w16 at hbox hkp hB2 ⊢
              clear hw hcf0 hcf1 hff0 hff1 hcl0 hcl1 hfl0 hfl1 hco0 hfo0 hx0 hx1 X0 X1 LX0 LX1 LT0 LT1
              have NE := Aside0.mk (show NeRow (.slice Ay0 y1'.length cy0) (.slice Ay1 y2'.length cy1) from fun k_ e1_ e2_ => (Y0.out.1 k_ e1_) e2_.symm)
              replace HH := Aside0.mk (HH.out.below hB2)
              replace BL := Aside0.mk (blk_below BL.out hB2)
              replace Y0 := Aside0.mk (Kd.R_below (Kd.R_bound Y0.out) hB2)
              replace Y1 := Aside0.mk (Kd.R_below (Kd.R_bound Y1.out) hB2)
              replace SL13 := Aside0.mk (Kd.S_below SL13.out hB2)
              replace HB := Aside0.mk (below_step HB.out hB2)
              replace BX := Aside0.mk (show w16.heap[gx]? = some (.cells #[.slice Ay0 y1'.length cy0, .slice Ay1 y2'.length cy1] 25 (0, 0)) from hbox)
              have ZE := Aside0.mk hB2.size
              clear hbox hkp hB2 B3
              obtain ⟨hcx0, hcx1, hfx0, hfx1⟩ := c2_ BX
              have hLr := (Kd.S_reads' HH.out.hL).2
              have RL := Aside0.mk hLr
              clear hLr
              go_upto_region 13 with (first | ((with_reducible refine gate_callee (f := 72) rfl ?_); refine gL_ (some 58) Try.func72 #[.pointer (some ⟨gO, 0, none⟩), .agg #[.slice Ay0 y1'.length cy0, .slice Ay1 y2'.length cy1]] rfl qa_ ?_; (with_reducible refine (index_calls k1 gO _ _ s'.L _ _ _ _ _ _ y1' _ _ y2' j _ RL.out.2 RL.out.1 (Kd.R_reads' Y0.out).2.2 (Kd.R_reads' Y0.out).2.1 (Kd.R_reads' Y1.out).2.2 (Kd.R_reads' Y1.out).2.1 HH.out.hO AJ.out).mono ?_); rintro e w17 ⟨rfl, hb⟩; refine ⟨_, rfl, ?_⟩; have ZF := Aside0.mk hb.size; replace HH := Aside0.mk (HH.out.below hb); replace BL := bb_ BL hb; replace BX := bb_ BX hb; replace Y0 := Aside0.mk (Kd.R_below Y0.out hb); replace Y1 := Aside0.mk (Kd.R_below Y1.out hb); replace SL13 := Aside0.mk (Kd.S_below SL13.out hb); replace HB := b1_ hb; clear hb))
              clear hcx0 hcx1 hfx0 hfx1 RL
              have ZW := Aside0.mk (show w13.heap.size ≤ w17.heap.size from Nat.le_trans ZD.out (Nat.le_trans ZE.out ZF.out))
              clear ZD ZE ZF
              by_cases hj0 : j < 0
              · have H := HS.out
                clear HS
                rw [if_pos hj0] at H
                have hjb := decide_eq_true hj0
                have hco0 : w17.cell? ⟨gO, 0, none⟩ = some (.slice (some adx) s'.L.length cL') := (blk_cell HH.out.hO 0).trans rfl
                have hfo0 := blk_frozen HH.out.hO 0
                by_cases hq5 : (s'.L.length : Int) = 120
                · rw [if_pos hq5] at H
                  obtain rfl := Option.some.inj H
                  clear H
                  have hzn : z = none := (Option.some.inj HT.out).symm
                  subst hzn
                  have hRn : R = none := (Option.some.inj HR.out).symm
                  subst hRn
                  have e5b : ((s'.L.length : Int) == 120) = true := beq_iff_eq.mpr hq5
                  clear hq5
                  go_wp2
                  go_ret2
                  exact ⟨qb_, hB_⟩
                · rw [if_neg hq5] at H
                  have e5b : ((s'.L.length : Int) == 120) = false := beq_eq_false_iff_ne.mpr hq5
                  clear hq5
                  have hlen := cp_ H
                  replace H := ca_ H
                  have hiW := cp_ H
                  replace H := ca_ H
                  have hsz := cp_ H
                  replace H := Option.some.inj (ca_ H)
                  subst H
                  rw [if_neg (by decide), if_neg (by decide)] at HT
                  have LN := Aside0.mk hlen
                  have LS := Aside0.mk hsz
                  clear hlen hsz
                  go_upto_region 17 with (fail)
                  clear hco0 hfo0 e5b
                  replace HH := Aside0.mk (HH.out.below (below_drew1 (Below.refl _ _)))
                  replace BL := Aside0.mk (blk_drew BL.out)
                  replace BX := Aside0.mk (blk_drew BX.out)
                  replace HB := Aside0.mk (below_drew1 HB.out)
                  replace Y0 := Aside0.mk (Kd.R_bound (Kd.R_drew Y0.out))
                  replace Y1 := Aside0.mk (Kd.R_bound (Kd.R_drew Y1.out))
                  replace SL13 := Aside0.mk (Kd.S_drew SL13.out)
                  replace ZW := Aside0.mk (show w13.heap.size ≤ w17.drew.heap.size from ZW.out)
                  refine start_ (n := 11) (S := fun w' => w'.cell? ⟨gO, 0, none⟩ = some (.slice (some adx) s'.L.length cL') ∧ w'.cell? ⟨gx, 0, none⟩ = some (.slice Ay0 y1'.length cy0) ∧ w'.cell? ⟨gx, 1, none⟩ = some (.slice Ay1 y2'.length cy1)) (ds := [7, 10]) (bl_ 11 0) (by kernel_rfl) rfl (by kernel_rfl) ⟨(blk_cell HH.out.hO 0).trans rfl, (blk_cell BX.out 0).trans rfl, (blk_cell BX.out 1).trans rfl⟩ (fun hHeld => ?_)
                  refine with_tabW orb_tab17 orb_bits17 (fun HT_ HW_ => ?_)
                  generalize w17.drew = wa at HH BL BX HB Y0 Y1 SL13 ZW hHeld ⊢
                  refine pu_ 0 (some 68) (bl_ 11 1) HT_ ?_
                  refine pu_ 1 (some 69) (bl_ 11 3) HT_ ?_
                  refine pu_ 2 (some 70) (bl_ 11 7) HT_ ?_
                  refine pu_ 3 (some 71) (bl_ 11 15) HT_ ?_
                  refine ta_ 4 (some 72) (bl_ 11 31) HT_ HW_ hHeld ?_
                  refine ta_ 5 (some 73) (bl_ 11 63) HT_ HW_ hHeld ?_
                  refine on_ 6 (some 74) (bl_ 11 127) HT_ (fun K hK => ?_)
                  refine value_ (w1 := ?_) (v := ?_) (by rfl) rfl ?_ ?_
                  rotate_left 2
                  · go_simp
                    constructor
                    · rfl
                    · rfl
                  refine hK.out _ _ ⟨((below_alloc (Below.refl _ _) _).cell (World.block_lt_of_cell? _ _ hHeld.1)).trans hHeld.1, ((below_alloc (Below.refl _ _) _).cell (World.block_lt_of_cell? _ _ hHeld.2.1)).trans hHeld.2.1, ((below_alloc (Below.refl _ _) _).cell (World.block_lt_of_cell? _ _ hHeld.2.2)).trans hHeld.2.2⟩ (fun hHeld => ?_)
                  clear hK K
                  refine no_ (some 74) ?_
                  refine last_ (i := 7) (N := some 75) (bl_ 11 255) rfl rfl (one_of HT_.out (by kernel_rfl)) (by decide) (fun K hK => ?_)
                  refine Kd.S_append_step k25 (w0 := w) w.heap.size (by rfl) (.tmp 72) (.tmp 74) 36 25 (.agg #[(.slice none 0 0), (.slice none 0 0)]) 48 rfl Try.underlying36 info25 rfl (by decide) (by omega) (.slice (some adx) s'.L.length cL') s'.L (⟨y1', y2'⟩ : S25) [.slice Ay0 y1'.length cy0, .slice Ay1 y2'.length cy1] (fun k_ => rcl wa.heap.size (rcl w13.heap.size col' 0) 0 k_ = 0) (fun k_ => w13.heap.size ≤ k_ ∧ k_ < wa.heap.size) rfl rfl ?aP ?aQ (fun k_ hk => rcl_new hk) ?aO HB.out HB.out.size (by have := LN.out; omega) ?_
                  case aP => exact k25_mkM _ _ _ (⟨y1', y2'⟩ : S25) (Kd.R_mono (Kd.R_lower Y0.out ZC.out) (fun k_ hk => ⟨hk.2.1, hk.2.2.1⟩)) (Kd.R_mono (Kd.R_lower Y1.out ZC.out) (fun k_ hk => ⟨hk.2.1, hk.2.2.1⟩)) NE.out
                  case aQ => exact fun k_ hk => ⟨(rcl_old hk.2).trans (rcl_new hk.1), fun e => by have := ((Kd.S_R SL13.out).1 k_ e.symm).2; have := hk.1; omega⟩
                  case aO => exact Kd.S_mono SL13.out (fun k_ hk => ⟨(rcl_old (Nat.lt_of_lt_of_le hk.2 ZW.out)).trans ((rcl_old hk.2).trans hk.1), fun h_ => by have := hk.2; have := h_.1; omega⟩)
                  intro v1 wb ho hb hg hat
                  obtain ⟨An1, cn1, en1⟩ := Kd.S_slice ho
                  subst en1
                  have HO19 := (B_gr HH.out.hO HH.out.cO hg (Kd.S_R HH.out.hL).1 (by decide)).1
                  have HC3 := Aside0.mk (B_gr BL.out HC.out hg (Kd.S_R HH.out.hL).1 (by decide))
                  have HP := HH.out.putL hg ho
                  have HB2 := Aside0.mk hb
                  refine hK.out _ _ ?_
                  clear hK K ho hb hg hat SL13 Y0 Y1 BX NE GX
                  refine no_ (some 75) ?_
                  refine pu_ 8 (some 76) (bl_ 11 511) HT_ ?_
                  refine pu_ 9 (some 77) (bl_ 11 1023) HT_ ?_
                  refine last_ (i := 10) (N := none) (bl_ 11 2047) rfl rfl (one_of HT_.out (by kernel_rfl)) (by decide) (fun K hK => ?_)
                  have hs19 : wb.cell? ⟨gO, 0, none⟩ = some (.slice (some adx) s'.L.length cL') := (blk_cell HO19 0).trans rfl
                  have hf19 := blk_frozen HO19 0
                  refine skip_ (w1 := wb.setCell ⟨gO, 0, none⟩ (.slice An1 (s'.L ++ [(⟨y1', y2'⟩ : S25)]).length cn1)) (by rfl) rfl ?_ ?_
                  · go_simp
                  refine hK.out _ _ ?_
                  clear hK K hs19 hf19
                  refine done_ (done_of HT_.out (by kernel_rfl)) ?_
                  have hne_ : gl ≠ gO := fun e => by have a1 := HC3.out.2; have a2 := HP.cO; rw [e] at a1; omega
                  have HB3 := Aside0.mk (below_set (g := gO) (j := 0) (v := (.slice An1 (s'.L ++ [(⟨y1', y2'⟩ : S25)]).length cn1)) HB2.out HP.bO)
                  have BL2 := Aside0.mk (put_far HC3.out.1 hne_ 0 (.slice An1 (s'.L ++ [(⟨y1', y2'⟩ : S25)]).length cn1))
                  have HCN := HC3.out.2
                  clear HH BL HB HC HC3 HB2 HO19
                  generalize hwc : wb.setCell ⟨gO, 0, none⟩ (.slice An1 (s'.L ++ [(⟨y1', y2'⟩ : S25)]).length cn1) = wc at HP HB3 BL2 ⊢
                  clear hwc
                  obtain ⟨colwc, hh_, hc_⟩ : ∃ c_, OrbH w.heap.size c_ wc gO gM n' _ _ _ _ _ _ _ ∧ c_ gl = 8 := ⟨_, HP, HCN⟩
                  have HH := Aside0.mk hh_; have HC := Aside0.mk hc_; have BL := BL2; have HB := HB3
                  clear hh_ hc_ BL2 HB3 HP HCN hne_
                  obtain ⟨AW, cW, eW⟩ := Kd.R_slice HH.out.hW
                  subst eW
                  go_upto_region 18 with (fail)
                  replace HH := Aside0.mk (HH.out.below (below_drew1 (Below.refl _ _)))
                  replace BL := Aside0.mk (blk_drew BL.out)
                  replace HB := Aside0.mk (below_drew1 HB.out)
                  obtain ⟨adw, ew, hxw⟩ := Kd.at_string (Kd.R_reads' HH.out.hW).2.2 x7 hi0 hiW
                  cases ew
                  have tw1 := eq_true hiW
                  have tw2 := decide_eq_true hiW
                  refine start_ (n := 21) (S := fun w' => w'.cell? ⟨gO, 1, none⟩ = some (.slice (some adw) s'.W.length cW) ∧ w'.cell? (adw.add (x7).toNat) = some (.string (rdOf ByteArray.empty s'.W x7))) (ds := [17, 20]) (bl_ 21 0) (by kernel_rfl) rfl (by kernel_rfl) ⟨(blk_cell HH.out.hO 1).trans rfl, hxw⟩ (fun hHeld => ?_)
                  refine with_tabW orb_tab18 orb_bits18 (fun HT_ HW_ => ?_)
                  clear hxw
                  generalize wc.drew = wd at HH BL HB hHeld ⊢
                  refine pu_ 0 (some 78) (bl_ 21 1) HT_ ?_
                  refine pu_ 1 (some 79) (bl_ 21 3) HT_ ?_
                  refine pu_ 2 (some 80) (bl_ 21 7) HT_ ?_
                  refine pu_ 3 (some 81) (bl_ 21 15) HT_ ?_
                  refine ta_ 4 (some 82) (bl_ 21 31) HT_ HW_ hHeld ?_
                  refine pu_ 5 (some 83) (bl_ 21 63) HT_ ?_
                  refine pu_ 6 (some 84) (bl_ 21 127) HT_ ?_
                  refine pu_ 7 (some 85) (bl_ 21 255) HT_ ?_
                  refine ta_ 8 (some 86) (bl_ 21 511) HT_ HW_ hHeld ?_
                  refine pu_ 9 (some 87) (bl_ 21 1023) HT_ ?_
                  refine pu_ 10 (some 88) (bl_ 21 2047) HT_ ?_
                  refine ta_ 11 (some 89) (bl_ 21 4095) HT_ HW_ hHeld ?_
                  refine pu_ 12 (some 90) (bl_ 21 8191) HT_ ?_
                  refine on_ 13 (some 91) (bl_ 21 16383) HT_ (fun K hK => ?_)
                  refine Kd.R_lit_step (Kd.int .u8) _ 5 ?hg (N := 91) ?hd (xs := ([83] : List Int)) (inner := [.int .u8 83]) (ok := fun _ => True) (okp := fun _ => True) ?hr ?hp (fun _ hk => hk) trivial (Below.refl _ _) (Nat.le_refl _) (by simp) ?_; (case hd => rfl); (case hg => rfl); (case hr => first | (go_simp; done) | (go_simp; rfl)); (case hp => exact (Reps.one (show Kd.M (Kd.int .u8) _ _ _ 83 [.int .u8 83] from rfl) (Reps.none _ _)))
                  intro vq we hoq hb hg_ hnew_
                  have hS1_ := (hb.cell (World.block_lt_of_cell? _ _ hHeld.1)).trans hHeld.1
                  have hS2_ := (hb.cell (World.block_lt_of_cell? _ _ hHeld.2)).trans hHeld.2
                  replace HH := Aside0.mk (HH.out.below hb)
                  replace BL := bb_ BL hb
                  replace HB := b1_ hb
                  have HOq := Aside0.mk hoq
                  clear hg_ hnew_ hb hoq
                  refine hK.out _ _ ⟨hS1_, hS2_⟩ (fun hHeld => ?_)
                  clear hK K hS1_ hS2_
                  refine no_ (some 91) ?_
                  refine on_ 14 (some 92) (bl_ 21 32767) HT_ (fun K hK => ?_)
                  have hcv47 := own_string (P := Try.prog) Try.underlying22 Try.underlying5 Try.underlying9 (Kd.own_of_R HOq.out)
                  refine value_ (w1 := ?_) (v := ?_) (by rfl) rfl ?_ ?_
                  rotate_left 2
                  · go_simp
                    constructor
                    · rfl
                    · rfl
                  clear hcv47 HOq
                  refine hK.out _ _ hHeld (fun hHeld => ?_)
                  clear hK K
                  refine no_ (some 92) ?_
                  have hs1_ : (strOfNums [(83 : Int)]).size = 1 := by decide +kernel
                  have tw3 : (9223372036854775807 < (rdOf ByteArray.empty s'.W x7).size + (strOfNums [(83 : Int)]).size) = False := eq_false (by rw [hs1_]; have := LS.out; omega)
                  clear hs1_
                  refine pu_ 15 (some 93) (bl_ 21 65535) HT_ ?_
                  clear tw3
                  refine on_ 16 (some 94) (bl_ 21 131071) HT_ (fun K hK => ?_)
                  refine value_ (w1 := ?_) (v := ?_) (by rfl) rfl ?_ ?_
                  rotate_left 2
                  · go_simp
                    constructor
                    · rfl
                    · rfl
                  refine hK.out _ _ ⟨((below_alloc (Below.refl _ _) _).cell (World.block_lt_of_cell? _ _ hHeld.1)).trans hHeld.1, ((below_alloc (Below.refl _ _) _).cell (World.block_lt_of_cell? _ _ hHeld.2)).trans hHeld.2⟩ (fun hHeld => ?_)
                  clear hK K
                  refine no_ (some 94) ?_
                  refine last_ (i := 17) (N := some 95) (bl_ 21 262143) rfl rfl (one_of HT_.out (by kernel_rfl)) (by decide) (fun K hK => ?_)
                  refine Kd.R_append_step Kd.string (w0 := w) w.heap.size (by rfl) (.tmp 82) (.tmp 94) 53 9 (.string ⟨#[]⟩) 16 rfl Try.underlying53 info9 rfl (by decide) (by omega) (.slice (some adw) s'.W.length cW) s'.W ((rdOf ByteArray.empty s'.W x7) ++ (strOfNums [83])) [.string ((rdOf ByteArray.empty s'.W x7) ++ (strOfNums [83]))] (fun k_ => rcl we.heap.size colwc 1 k_ = 1) (fun _ => False) rfl rfl rfl (fun _ hk => hk.elim) (fun k_ hk => rcl_new hk) (R_col HH.out.hW (fun k_ hk => rcl_old hk)) HB.out HB.out.size (by have := LN.out; omega) ?_
                  intro v2 wf ho hb hg hat
                  obtain ⟨An2, cn2, en2⟩ := Kd.R_slice ho
                  subst en2
                  have HO19 := (B_gr HH.out.hO HH.out.cO hg HH.out.hW.1 (by decide)).1
                  have HC3 := Aside0.mk (B_gr BL.out HC.out hg HH.out.hW.1 (by decide))
                  have HP := HH.out.putW hg ho
                  have HB2 := Aside0.mk hb
                  refine hK.out _ _ ?_
                  clear hK K ho hb hg hat
                  refine no_ (some 95) ?_
                  refine pu_ 18 (some 96) (bl_ 21 524287) HT_ ?_
                  refine pu_ 19 (some 97) (bl_ 21 1048575) HT_ ?_
                  refine last_ (i := 20) (N := none) (bl_ 21 2097151) rfl rfl (one_of HT_.out (by kernel_rfl)) (by decide) (fun K hK => ?_)
                  have hs19 : wf.cell? ⟨gO, 1, none⟩ = some (.slice (some adw) s'.W.length cW) := (blk_cell HO19 1).trans rfl
                  have hf19 := blk_frozen HO19 1
                  refine skip_ (w1 := wf.setCell ⟨gO, 1, none⟩ (.slice An2 (s'.W ++ [(rdOf ByteArray.empty s'.W x7) ++ (strOfNums [83])]).length cn2)) (by rfl) rfl ?_ ?_
                  · go_simp
                  refine hK.out _ _ ?_
                  clear hK K hs19 hf19
                  refine done_ (done_of HT_.out (by kernel_rfl)) ?_
                  have hne_ : gl ≠ gO := fun e => by have a1 := HC3.out.2; have a2 := HP.cO; rw [e] at a1; omega
                  have HB3 := Aside0.mk (below_set (g := gO) (j := 1) (v := (.slice An2 (s'.W ++ [(rdOf ByteArray.empty s'.W x7) ++ (strOfNums [83])]).length cn2)) HB2.out HP.bO)
                  have BL2 := Aside0.mk (put_far HC3.out.1 hne_ 1 (.slice An2 (s'.W ++ [(rdOf ByteArray.empty s'.W x7) ++ (strOfNums [83])]).length cn2))
                  have HCN := HC3.out.2
                  clear HH BL HB HC HC3 HB2 HO19
                  generalize hwc : wf.setCell ⟨gO, 1, none⟩ (.slice An2 (s'.W ++ [(rdOf ByteArray.empty s'.W x7) ++ (strOfNums [83])]).length cn2) = wg at HP HB3 BL2 ⊢
                  clear hwc
                  obtain ⟨colwg, hh_, hc_⟩ : ∃ c_, OrbH w.heap.size c_ wg gO gM n' _ _ _ _ _ _ _ ∧ c_ gl = 8 := ⟨_, HP, HCN⟩
                  have HH := Aside0.mk hh_; have HC := Aside0.mk hc_; have BL := BL2; have HB := HB3
                  clear hh_ hc_ BL2 HB3 HP HCN hne_
                  obtain ⟨AF, cF, eF⟩ := Kd.R_slice HH.out.hF
                  subst eF
                  go_upto_region 19 with (fail)
                  have hco_ : wg.cell? ⟨gO, 2, none⟩ = some (.slice AF s'.F.length cF) := (blk_cell HH.out.hO 2).trans rfl
                  have hfo_ := blk_frozen HH.out.hO 2
                  go_upto_region 20 with (first | ((with_reducible refine gate_builtin (b := .append) (xs := #[.tmp 102, .tmp 104]) rfl ?_); at_builtin; refine Kd.R_append (Kd.int .i64) (w0 := w) w.heap.size rfl (.tmp 102) (.tmp 104) 23 3 (.int .i64 0) 8 rfl Try.underlying23 info3 rfl (by decide) (by omega) (.slice AF s'.F.length cF) s'.F (x7) [.int .i64 (x7)] (fun k_ => rcl wg.heap.size colwg 2 k_ = 2) (fun _ => False) rfl rfl rfl (fun _ hk => hk.elim) (fun k_ hk => rcl_new hk) (R_col HH.out.hF (fun k_ hk => rcl_old hk)) HB.out HB.out.size (by have := LN.out; omega) ?_; intro v3 wh ho hb hg hat; obtain ⟨Anv3, cnv3, env3⟩ := Kd.R_slice ho; subst env3; rw [List.length_append, List.length_singleton] at ho; have HO19 := (B_gr HH.out.hO HH.out.cO hg HH.out.hF.1 (by decide)).1; have HC3 := Aside0.mk (B_gr BL.out HC.out hg HH.out.hF.1 (by decide)); have HP := HH.out.putF hg ho; have HB2 := Aside0.mk hb; clear ho hb hg hat hco_ hfo_; have hs19 : wh.cell? ⟨gO, 2, none⟩ = some (.slice AF s'.F.length cF) := (blk_cell HO19 2).trans rfl; have hf19 := blk_frozen HO19 2))
                  clear hs19 hf19
                  have hne_ : gl ≠ gO := fun e => by have a1 := HC3.out.2; have a2 := HP.cO; rw [e] at a1; omega
                  have HB3 := Aside0.mk (below_set (g := gO) (j := 2) (v := (.slice Anv3 (s'.F.length + 1) cnv3)) HB2.out HP.bO)
                  have BL2 := Aside0.mk (put_far HC3.out.1 hne_ 2 (.slice Anv3 (s'.F.length + 1) cnv3))
                  have HCN := HC3.out.2
                  clear HH BL HB HC HC3 HB2 HO19
                  generalize hwc : wh.setCell ⟨gO, 2, none⟩ (.slice Anv3 (s'.F.length + 1) cnv3) = wi at HP HB3 BL2 ⊢
                  clear hwc
                  obtain ⟨colwi, hh_, hc_⟩ : ∃ c_, OrbH w.heap.size c_ wi gO gM n' _ _ _ _ _ _ _ ∧ c_ gl = 8 := ⟨_, HP, HCN⟩
                  have HH := Aside0.mk hh_; have HC := Aside0.mk hc_; have BL := BL2; have HB := HB3
                  clear hh_ hc_ BL2 HB3 HP HCN hne_
                  obtain ⟨AB, cB, eB⟩ := Kd.R_slice HH.out.hB
                  subst eB
                  have hco_ : wi.cell? ⟨gO, 3, none⟩ = some (.slice AB s'.B.length cB) := (blk_cell HH.out.hO 3).trans rfl
                  have hfo_ := blk_frozen HH.out.hO 3
                  go_upto_region 21 with (first | ((with_reducible refine gate_builtin (b := .append) (xs := #[.tmp 112, .tmp 114]) rfl ?_); at_builtin; refine Kd.R_append (Kd.int .u8) (w0 := w) w.heap.size rfl (.tmp 112) (.tmp 114) 22 5 (.int .u8 0) 1 rfl Try.underlying22 info5 rfl (by decide) (by omega) (.slice AB s'.B.length cB) s'.B (83) [.int .u8 (83)] (fun k_ => rcl wi.heap.size colwi 3 k_ = 3) (fun _ => False) rfl rfl rfl (fun _ hk => hk.elim) (fun k_ hk => rcl_new hk) (R_col HH.out.hB (fun k_ hk => rcl_old hk)) HB.out HB.out.size (by have := LN.out; omega) ?_; intro v4 wj ho hb hg hat; obtain ⟨Anv4, cnv4, env4⟩ := Kd.R_slice ho; subst env4; rw [List.length_append, List.length_singleton] at ho; have HO19 := (B_gr HH.out.hO HH.out.cO hg HH.out.hB.1 (by decide)).1; have HC3 := Aside0.mk (B_gr BL.out HC.out hg HH.out.hB.1 (by decide)); have HP := HH.out.putB hg ho; have HB2 := Aside0.mk hb; clear ho hb hg hat hco_ hfo_; have hs19 : wj.cell? ⟨gO, 3, none⟩ = some (.slice AB s'.B.length cB) := (blk_cell HO19 3).trans rfl; have hf19 := blk_frozen HO19 3))
                  clear hs19 hf19
                  have hne_ : gl ≠ gO := fun e => by have a1 := HC3.out.2; have a2 := HP.cO; rw [e] at a1; omega
                  have HB3 := Aside0.mk (below_set (g := gO) (j := 3) (v := (.slice Anv4 (s'.B.length + 1) cnv4)) HB2.out HP.bO)
                  have BL2 := Aside0.mk (put_far HC3.out.1 hne_ 3 (.slice Anv4 (s'.B.length + 1) cnv4))
                  have HCN := HC3.out.2
                  clear HH BL HB HC HC3 HB2 HO19
                  generalize hwc : wj.setCell ⟨gO, 3, none⟩ (.slice Anv4 (s'.B.length + 1) cnv4) = wk at HP HB3 BL2 ⊢
                  clear hwc
                  obtain ⟨colwk, hh_, hc_⟩ : ∃ c_, OrbH w.heap.size c_ wk gO gM n' _ _ _ _ _ _ _ ∧ c_ gl = 8 := ⟨_, HP, HCN⟩
                  have HH := Aside0.mk hh_; have HC := Aside0.mk hc_; have BL := BL2; have HB := HB3
                  clear hh_ hc_ BL2 HB3 HP HCN hne_
                  generalize hcc : colwk = colc at HH HC
                  clear hcc
                  go_upto_region 21 with (fail)
                  replace HH := Aside0.mk (HH.out.below (below_drew1 (Below.refl _ _)))
                  replace BL := Aside0.mk (blk_drew BL.out)
                  replace HB := Aside0.mk (below_drew1 HB.out)
                  refine start_ (n := 15) (S := fun w' => w'.cell? ⟨gO, 4, none⟩ = some (.map (some gM)) ∧ w'.heap[gM]? = some (mapO n' vT' vS')) (ds := [14]) (bl_ 15 0) (by kernel_rfl) rfl (by kernel_rfl) ⟨(blk_cell HH.out.hO 4).trans rfl, HH.out.hM⟩ (fun hHeld => ?_)
                  refine with_tabW orb_tab21 orb_bits21 (fun HT_ HW_ => ?_)
                  generalize wk.drew = wl at HH BL HB hHeld ⊢
                  refine pu_ 0 (some 118) (bl_ 15 1) HT_ ?_
                  refine pu_ 1 (some 119) (bl_ 15 3) HT_ ?_
                  refine pu_ 2 (some 120) (bl_ 15 7) HT_ ?_
                  refine ta_ 3 (some 121) (bl_ 15 15) HT_ HW_ hHeld ?_
                  refine pu_ 4 (some 122) (bl_ 15 31) HT_ ?_
                  refine pu_ 5 (some 123) (bl_ 15 63) HT_ ?_
                  refine pu_ 6 (some 124) (bl_ 15 127) HT_ ?_
                  refine pu_ 7 (some 125) (bl_ 15 255) HT_ ?_
                  refine ta_ 8 (some 126) (bl_ 15 511) HT_ HW_ hHeld ?_
                  refine pu_ 9 (some 127) (bl_ 15 1023) HT_ ?_
                  have hlk : ∀ w', w'.heap[gM]? = some (mapO n' vT' vS') → (Instr.lookup 67 (.map (some gM)) (.int .u8 83) false).run Try.prog w' = .ok vS' w' := fun w' h_ => by
                    have hn := hn0.out
                    have := look_S h_ (by omega)
                    rw [HH.out.look.2] at this
                    exact this
                  refine ta_ 10 (some 128) (v := vS') (bl_ 15 2047) HT_ HW_ hHeld ?_ (hy := Or.inl ⟨by rfl, fun w' hs_ => ?_⟩)
                  rotate_left
                  · have hq := hlk w' hs_.2
                    go_simp
                  clear hlk
                  refine pu_ 11 (some 129) (bl_ 15 4095) HT_ ?_
                  refine on_ 12 (some 130) (bl_ 15 8191) HT_ (fun K hK => ?_)
                  refine value_ (w1 := ?_) (v := ?_) (by rfl) rfl ?_ ?_
                  rotate_left 2
                  · go_simp
                    constructor
                    · rfl
                    · rfl
                  refine hK.out _ _ ⟨((below_alloc (Below.refl _ _) _).cell (World.block_lt_of_cell? _ _ hHeld.1)).trans hHeld.1, blk_alloc hHeld.2 _⟩ (fun hHeld => ?_)
                  clear hK K
                  refine no_ (some 130) ?_
                  refine on_ 13 (some 131) (bl_ 15 16383) HT_ (fun K hK => ?_)
                  refine Kd.R_append_step (Kd.int .i64) (w0 := w) w.heap.size (by rfl) (.tmp 128) (.tmp 130) 23 3 (.int .i64 0) 8 rfl Try.underlying23 info3 rfl (by decide) (by omega) vS' s'.S ((s'.L.length : Int)) [.int .i64 ((s'.L.length : Int))] (fun k_ => rcl wl.heap.size colc 5 k_ = 5) (fun _ => False) rfl rfl rfl (fun _ hk => hk.elim) (fun k_ hk => rcl_new hk) (R_col HH.out.hS (fun k_ hk => rcl_old hk)) HB.out HB.out.size (by have := LN.out; omega) ?_
                  intro v1 wlb ho hb hg hat
                  have HP := HH.out.putS hn0.out hg ho
                  have HM := Aside0.mk HP.1
                  have HO19 := (B_gr HH.out.hO HH.out.cO hg HH.out.hS.1 (by decide)).1
                  have HC3 := Aside0.mk (B_gr BL.out HC.out hg HH.out.hS.1 (by decide))
                  replace HH := Aside0.mk HP.2
                  clear HP
                  have HB2 := Aside0.mk hb
                  refine hK.out _ _ ⟨(blk_cell HO19 4).trans rfl, HM.out⟩ (fun hHeld => ?_)
                  clear hK K ho hb hg hat HO19
                  refine no_ (some 131) ?_
                  refine last_ (i := 14) (N := none) (bl_ 15 32767) rfl rfl (one_of HT_.out (by kernel_rfl)) (by decide) (fun K hK => ?_)
                  have hput : (Instr.mapUpdate 67 (.map (some gM)) (.int .u8 83) v1).run Try.prog wlb = .ok () (setMap wlb gM 2 vT' v1) := put_S HM.out hn0.out v1
                  refine skip_ (w1 := setMap wlb gM 2 vT' v1) (by rfl) rfl ?_ ?_
                  · go_simp
                  refine hK.out _ _ ?_
                  clear hK K hput
                  refine done_ (done_of HT_.out (by kernel_rfl)) ?_
                  try go_wp2
                  have hgm : gl ≠ gM := fun e => by have a1 := HC3.out.2; have a2 := HH.out.cM; rw [e] at a1; omega
                  have BL2 := Aside0.mk ((setMap_far (n := 2) vT' v1 hgm).trans HC3.out.1)
                  have HB3 := Aside0.mk (setMap_below (n := 2) vT' v1 HB2.out HH.out.bM)
                  go_roundg 0
                  case measure => have := HG.out; omega
                  case rel => exact ⟨2, 2, _, _, _, _, _, _, _, _, (by first | rfl | (simp; done) | (simp [*]; done)), ⟨by omega⟩, ⟨by omega⟩, HT, ⟨⟨fun e => absurd e (by decide), fun e => absurd e (by decide), fun _ => rfl⟩⟩, ⟨HC3.out.2⟩, BL2, HH, HB3⟩
              · have H := HS.out
                clear HS
                rw [if_neg hj0] at H
                have hjb := decide_eq_false hj0
                have hlen := cp_ H
                replace H := Option.some.inj (ca_ H)
                subst H
                rw [if_neg (by decide), if_neg (by decide)] at HT
                have LN := Aside0.mk hlen
                clear hlen SL13 Y0 Y1 BX NE GX
                generalize hcc : rcl w13.heap.size col' 0 = colc at HH HC
                clear hcc
                go_upto_region 21 with (fail)
                replace HH := Aside0.mk (HH.out.below (below_drew1 (Below.refl _ _)))
                replace BL := Aside0.mk (blk_drew BL.out)
                replace HB := Aside0.mk (below_drew1 HB.out)
                refine start_ (n := 15) (S := fun w' => w'.cell? ⟨gO, 4, none⟩ = some (.map (some gM)) ∧ w'.heap[gM]? = some (mapO n' vT' vS')) (ds := [14]) (bl_ 15 0) (by kernel_rfl) rfl (by kernel_rfl) ⟨(blk_cell HH.out.hO 4).trans rfl, HH.out.hM⟩ (fun hHeld => ?_)
                refine with_tabW orb_tab21 orb_bits21 (fun HT_ HW_ => ?_)
                generalize w17.drew = w18 at HH BL HB hHeld ⊢
                refine pu_ 0 (some 118) (bl_ 15 1) HT_ ?_
                refine pu_ 1 (some 119) (bl_ 15 3) HT_ ?_
                refine pu_ 2 (some 120) (bl_ 15 7) HT_ ?_
                refine ta_ 3 (some 121) (bl_ 15 15) HT_ HW_ hHeld ?_
                refine pu_ 4 (some 122) (bl_ 15 31) HT_ ?_
                refine pu_ 5 (some 123) (bl_ 15 63) HT_ ?_
                refine pu_ 6 (some 124) (bl_ 15 127) HT_ ?_
                refine pu_ 7 (some 125) (bl_ 15 255) HT_ ?_
                refine ta_ 8 (some 126) (bl_ 15 511) HT_ HW_ hHeld ?_
                refine pu_ 9 (some 127) (bl_ 15 1023) HT_ ?_
                have hlk : ∀ w', w'.heap[gM]? = some (mapO n' vT' vS') → (Instr.lookup 67 (.map (some gM)) (.int .u8 83) false).run Try.prog w' = .ok vS' w' := fun w' h_ => by
                  have hn := hn0.out
                  have := look_S h_ (by omega)
                  rw [HH.out.look.2] at this
                  exact this
                refine ta_ 10 (some 128) (v := vS') (bl_ 15 2047) HT_ HW_ hHeld ?_ (hy := Or.inl ⟨by rfl, fun w' hs_ => ?_⟩)
                rotate_left
                · have hq := hlk w' hs_.2
                  go_simp
                clear hlk
                refine pu_ 11 (some 129) (bl_ 15 4095) HT_ ?_
                refine on_ 12 (some 130) (bl_ 15 8191) HT_ (fun K hK => ?_)
                refine value_ (w1 := ?_) (v := ?_) (by rfl) rfl ?_ ?_
                rotate_left 2
                · go_simp
                  constructor
                  · rfl
                  · rfl
                refine hK.out _ _ ⟨((below_alloc (Below.refl _ _) _).cell (World.block_lt_of_cell? _ _ hHeld.1)).trans hHeld.1, blk_alloc hHeld.2 _⟩ (fun hHeld => ?_)
                clear hK K
                refine no_ (some 130) ?_
                refine on_ 13 (some 131) (bl_ 15 16383) HT_ (fun K hK => ?_)
                refine Kd.R_append_step (Kd.int .i64) (w0 := w) w.heap.size (by rfl) (.tmp 128) (.tmp 130) 23 3 (.int .i64 0) 8 rfl Try.underlying23 info3 rfl (by decide) (by omega) vS' s'.S (j) [.int .i64 (j)] (fun k_ => rcl w18.heap.size colc 5 k_ = 5) (fun _ => False) rfl rfl rfl (fun _ hk => hk.elim) (fun k_ hk => rcl_new hk) (R_col HH.out.hS (fun k_ hk => rcl_old hk)) HB.out HB.out.size (by have := LN.out; omega) ?_
                intro v1 w18b ho hb hg hat
                have HP := HH.out.putS hn0.out hg ho
                have HM := Aside0.mk HP.1
                have HO19 := (B_gr HH.out.hO HH.out.cO hg HH.out.hS.1 (by decide)).1
                have HC3 := Aside0.mk (B_gr BL.out HC.out hg HH.out.hS.1 (by decide))
                replace HH := Aside0.mk HP.2
                clear HP
                have HB2 := Aside0.mk hb
                refine hK.out _ _ ⟨(blk_cell HO19 4).trans rfl, HM.out⟩ (fun hHeld => ?_)
                clear hK K ho hb hg hat HO19
                refine no_ (some 131) ?_
                refine last_ (i := 14) (N := none) (bl_ 15 32767) rfl rfl (one_of HT_.out (by kernel_rfl)) (by decide) (fun K hK => ?_)
                have hput : (Instr.mapUpdate 67 (.map (some gM)) (.int .u8 83) v1).run Try.prog w18b = .ok () (setMap w18b gM 2 vT' v1) := put_S HM.out hn0.out v1
                refine skip_ (w1 := setMap w18b gM 2 vT' v1) (by rfl) rfl ?_ ?_
                · go_simp
                refine hK.out _ _ ?_
                clear hK K hput
                refine done_ (done_of HT_.out (by kernel_rfl)) ?_
                try go_wp2
                have hgm : gl ≠ gM := fun e => by have a1 := HC3.out.2; have a2 := HH.out.cM; rw [e] at a1; omega
                have BL2 := Aside0.mk ((setMap_far (n := 2) vT' v1 hgm).trans HC3.out.1)
                have HB3 := Aside0.mk (setMap_below (n := 2) vT' v1 HB2.out HH.out.bM)
                go_roundg 0
                case measure => have := HG.out; omega
                case rel => exact ⟨2, 2, _, _, _, _, _, _, _, _, (by first | rfl | (simp; done) | (simp [*]; done)), ⟨by omega⟩, ⟨by omega⟩, HT, ⟨⟨fun e => absurd e (by decide), fun e => absurd e (by decide), fun _ => rfl⟩⟩, ⟨HC3.out.2⟩, BL2, HH, HB3⟩
          · have hj2' : jj = 2 := by omega
            subst hj2'
            have hn2 := Aside0.mk (HN.out.2.2 rfl)
            have H := AZ.out
            clear AZ
            change innerO k1 x7 [] s' = some z at H
            simp only [innerO] at H
            obtain rfl := Option.some.inj H
            clear H
            clear hcl0 hcl1 hfl0 hfl1 hco0 hfo0
            go_wp2
            go_roundg k1
            case measure => have := HK.out; omega
            case rel => exact ⟨wrap64 (x7 + 1), n', _, _, _, _, _, _, _, s', (by first | rfl | (simp; done) | (simp [*]; done)), HR, ⟨by have := HK.out; omega⟩, ⟨.inr hn2.out⟩, HH, HB⟩
      · rw [if_neg hq1] at H
        have c1b := decide_eq_false hq1
        obtain rfl := Option.some.inj H
        clear H hq1
        go_wp2
        go_ret2
        exact ⟨gO, gM, n, col, _, _, _, _, _, _, rfl, HH.out, HB.out⟩
theorem orbit_calls (k : Nat) (A0 : Option Addr) (c0 : Nat) (l0 : List Int) (A1 : Option Addr) (c1 : Nat) (l1 : List Int) (R : Option Orb) (w : World) (h0 : Kd.C (Kd.int .i64) w A0 l0.length l0) (g0 : l0.length ≤ c0) (h1 : Kd.C (Kd.int .i64) w A1 l1.length l1) (g1 : l1.length ≤ c1) (h : orbitO k l0 l1 = some R) :
    Calls Try.prog 59 #[.agg #[.slice A0 l0.length c0, .slice A1 l1.length c1]] w fun e w' => OrbPost w w' e R := by
  unfold orbitO at h
  obtain ⟨⟨y1, y2, yb⟩, a, h⟩ := Option.bind_eq_some_iff.mp h
  cases yb with
  | false =>
    have e : none = R := Option.some.inj h
    subst e
    exact orbit_no k A0 c0 l0 A1 c1 l1 y1 y2 w h0 g0 h1 g1 a
  | true => exact orbit_yes k A0 c0 l0 A1 c1 l1 y1 y2 R w h0 g0 h1 g1 a h
end Go.Proofs.Ytcggfjpnfodbaaa.M
end
section
/- Finding the orbit: more rounds give the same answer. No conditions. -/
namespace Go.Proofs.Ytcggfjpnfodbaaa.M
set_option linter.unusedVariables false
set_option linter.unusedSimpArgs false
open Go Go.RowKit Go.Proofs.YtcggfjpnfodbaaaW.PrintWords Go.Proofs.YtcggfjpnfodbaaaW.PrintLast Go.Proofs.YtcggfjpnfodbaaaW.PrintMore Go.Proofs.Ytcggfjpnfodbaaa.A
theorem idxS_mono (k : Nat) (r u : List Int) : ∀ (l : List S25) (i : Nat), LeO (idxS k r u l i) (idxS (k + 1) r u l i) := by
  intro l
  induction l with
  | nil => intro i; exact LeO.refl _
  | cons x l ih =>
    intro i
    unfold idxS
    refine LeO.bind (impl_SameSurface.mono _ _ _ _ _) (fun b => LeO.ite (LeO.refl _) (ih _))
theorem indexO_mono (k : Nat) (l : List S25) (r u : List Int) : LeO (indexO k l r u) (indexO (k + 1) l r u) := by
  unfold indexO
  exact LeO.ite (idxS_mono _ _ _ _ _) (LeO.refl _)
theorem stpO_mono (k : Nat) (i c : Int) (s : Orb) : LeO (stpO k i c s) (stpO (k + 1) i c s) := by
  unfold stpO
  refine LeO.ite (LeO.ite (LeO.bind (impl_letterSurface.mono _ _ _ _) (fun x => LeO.bind (impl_CanonOf.mono _ _ _) (fun y => LeO.bind (indexO_mono _ _ _ _) (fun j => LeO.refl _)))) (LeO.refl _)) (LeO.refl _)
theorem innerO_mono (k : Nat) (i : Int) : ∀ (cs : List Int) (s : Orb), LeO (innerO k i cs s) (innerO (k + 1) i cs s) := by
  intro cs
  induction cs with
  | nil => intro s; exact LeO.refl _
  | cons c cs ih =>
    intro s
    unfold innerO
    refine LeO.bind (stpO_mono _ _ _ _) (fun z => ?_)
    cases z with
    | none => exact LeO.refl _
    | some s' => exact ih s'
theorem loopO_mono : ∀ (k : Nat) (s : Orb) (i : Int), LeO (loopO k s i) (loopO (k + 1) s i) := by
  intro k
  induction k with
  | zero => intro s i; exact LeO.none _
  | succ k ih =>
    intro s i
    rw [loopO, loopO]
    refine LeO.ite (LeO.bind (innerO_mono _ _ _ _) (fun z => ?_)) (LeO.refl _)
    cases z with
    | none => exact LeO.refl _
    | some s' => exact ih s' _
theorem orbitO_mono (k : Nat) (r u : List Int) : LeO (orbitO k r u) (orbitO (k + 1) r u) := by
  unfold orbitO
  exact LeO.bind (impl_CanonOf.mono _ _ _) (fun y => LeO.ite (loopO_mono _ _ _) (LeO.refl _))
end Go.Proofs.Ytcggfjpnfodbaaa.M
end
section
/- Sorting a row of the call's own: what slices.SortFunc leaves. No conditions. -/
namespace Go.Proofs.Ytcggfjpnfodbaaa.M
open Go Go.RowKit Go.Proofs.YtcggfjpnfodbaaaW.PrintWords.Kd Go.Proofs.YtcggfjpnfodbaaaW.PrintWords Go.Proofs.YtcggfjpnfodbaaaW.PrintLast Go.Proofs.YtcggfjpnfodbaaaW.PrintMore Go.Shelf Go.Lib Go.Sort Go.Proofs
structure Cel {α : Type} (d : Kd α) (Q : α → Prop) (w : World) (base : Nat) (ok : Nat → Prop) where
  x : α
  c : List Value
  h : d.M w base ok x c
  q : Q x
section
variable {α : Type} {d : Kd α} {Q : α → Prop} {w W : World} {ok : Nat → Prop} {e base g cap : Nat} {v : Value} {xs : List α}
theorem Cel.len (z : Cel d Q w base ok) : z.c.length = d.sz := d.K_len (d.K_of_M z.h)
theorem Cel.one (z : Cel d Q w base ok) : ∀ u ∈ z.c, u.oneCell' = true := d.K_one (d.K_of_M z.h)
theorem Cel.move (z : Cel d Q w base ok) (hm : ∀ k, ok k → k < w.heap.size → W.heap[k]? = w.heap[k]?) : d.M W base ok z.x z.c :=
  d.M_mono (fun _ hk => hk.1) (d.M_move (fun k hk => hm k hk.1 hk.2.2.1) (d.M_bound z.h))
theorem cels_of : ∀ (xs : List α) (rows : List (List Value)), rows.length = xs.length → (∀ x ∈ xs, Q x) → (∀ (j : Nat) (x : α) (c : List Value), xs[j]? = some x → rows[j]? = some c → d.M w base ok x c) →
    ∃ l : List (Cel d Q w base ok), l.map (·.x) = xs ∧ l.map (·.c) = rows
  | [], [], _, _, _ => ⟨[], rfl, rfl⟩
  | [], _ :: _, h, _, _ => by simp at h
  | _ :: _, [], h, _, _ => by simp at h
  | x :: xs, c :: rows, h, hq, hf => by
    obtain ⟨l, h1, h2⟩ := cels_of xs rows (by simpa using h) (fun y hy => hq y (List.mem_cons_of_mem _ hy)) (fun j y c' hy hc => hf (j + 1) y c' (by simpa using hy) (by simpa using hc))
    exact ⟨⟨x, c, hf 0 x c rfl rfl, hq x List.mem_cons_self⟩ :: l, by simp [h1], by simp [h2]⟩
theorem flat_lenK {sz : Nat} : ∀ {rows : List (List Value)}, (∀ c ∈ rows, c.length = sz) → rows.flatten.length = rows.length * sz
  | [], _ => by simp
  | c :: rows, h => by
    rw [List.flatten_cons, List.length_append, flat_lenK (fun c' hc => h c' (List.mem_cons_of_mem _ hc)), h c List.mem_cons_self, List.length_cons, Nat.add_mul, Nat.one_mul, Nat.add_comm]
theorem flat_chunk {sz : Nat} : ∀ {rows : List (List Value)} (j : Nat) (c : List Value), (∀ c ∈ rows, c.length = sz) → rows[j]? = some c → (rows.flatten.drop (j * sz)).take sz = c
  | [], j, c, _, h => by simp at h
  | r :: rows, 0, c, hl, h => by
    simp only [List.getElem?_cons_zero, Option.some.injEq] at h
    subst h
    have := hl r List.mem_cons_self
    rw [Nat.zero_mul, List.drop_zero, List.flatten_cons, List.take_append_of_le_length (by omega), List.take_of_length_le (by omega)]
  | r :: rows, j + 1, c, hl, h => by
    have h0 := hl r List.mem_cons_self
    have hd : r.drop sz = [] := List.drop_of_length_le (by omega)
    rw [List.flatten_cons, Nat.add_mul, Nat.one_mul, Nat.add_comm, ← List.drop_drop, List.drop_append_of_le_length (by omega), hd, List.nil_append]
    exact flat_chunk j c (fun c' hc => hl c' (List.mem_cons_of_mem _ hc)) (by simpa using h)
theorem flat_at {sz : Nat} {rows : List (List Value)} (hl : ∀ c ∈ rows, c.length = sz) {t : Nat} (ht : t < rows.length * sz) {c : List Value} (hc : rows[t / sz]? = some c) : rows.flatten[t]? = c[t % sz]? := by
  have h := flat_chunk (t / sz) c hl hc
  have hsz : 0 < sz := by
    rcases Nat.eq_zero_or_pos sz with h0 | h0
    · subst h0; simp at ht
    · exact h0
  have hm := Nat.mod_lt t hsz
  rw [← h, List.getElem?_take, if_pos hm, List.getElem?_drop, Nat.mul_comm, Nat.div_add_mod]
theorem R_of_cells {l : List (Cel d Q w base ok)} {okk : Nat → Prop} {cur : Array Value} (hg0 : okk g) (hbase : base ≤ g) (hW : ∀ k, k ≠ g → k < w.heap.size → W.heap[k]? = w.heap[k]?)
    (hg : W.heap[g]? = some (.cells cur e (0, 0))) (hn : l.length ≤ cap) (hm : cap ≤ maxLen) (hs : cur.size = cap * d.sz) (ht : cur.toList.take (l.length * d.sz) = (l.map (·.c)).flatten) (hok2 : ∀ k, ok k → okk k ∧ k ≠ g) :
    d.R e W base okk (.slice (some ⟨g, 0, none⟩) l.length cap) (l.map (·.x)) := by
  have hl : ∀ c ∈ l.map (·.c), c.length = d.sz := by
    intro c hc
    obtain ⟨z, _, rfl⟩ := List.mem_map.1 hc
    exact z.len
  refine ⟨fun k hk => ?_, (l.map (·.c)).flatten, ?_, ?_, ?_⟩
  · simp only [Value.ownBlock, Option.some.injEq] at hk; rw [← hk]; exact hg0
  · show World.ownsRow W base e d.sz _ _ _
    rw [List.length_map]
    exact ⟨by rw [flat_lenK hl, List.length_map], .inr ⟨g, cap, cur, rfl, hbase, hg, hn, hm, hs, ht⟩⟩
  · rw [flat_lenK hl, List.length_map, List.length_map]
  · intro j p hj
    rw [List.getElem?_map] at hj
    cases hz : l[j]? with
    | none => rw [hz] at hj; simp at hj
    | some z =>
      rw [hz] at hj
      simp only [Option.map_some, Option.some.injEq] at hj
      subst hj
      rw [flat_chunk j z.c hl (by rw [List.getElem?_map, hz]; rfl)]
      exact d.M_mono (fun k hk => ⟨(hok2 k hk).1, fun e_ => (hok2 k hk).2 (by simpa [Value.ownBlock] using e_)⟩) (z.move (fun k hk hlt => hW k (hok2 k hk).2 hlt))
theorem R_cells (h : d.R e w base ok v xs) (hq : ∀ x ∈ xs, Q x) (hp : 0 < xs.length) : ∃ g cap cur, v = .slice (some ⟨g, 0, none⟩) xs.length cap ∧ ok g ∧ base ≤ g ∧ g < w.heap.size ∧ w.heap[g]? = some (.cells cur e (0, 0)) ∧ xs.length ≤ cap ∧ cap ≤ maxLen ∧ cur.size = cap * d.sz ∧
    ∃ l : List (Cel d Q w base (fun k => ok k ∧ k ≠ g)), l.map (·.x) = xs ∧ cur.toList.take (xs.length * d.sz) = (l.map (·.c)).flatten := by
  obtain ⟨h0, inner, ho, hr⟩ := h
  obtain ⟨hlen, ho⟩ := ho
  rcases ho with ⟨rfl, hz⟩ | ⟨g, cap, cur, rfl, hb, hg, hn, hm, hs, ht⟩
  · omega
  · have hgl : g < w.heap.size := by
      rcases Nat.lt_or_ge g w.heap.size with h | h
      · exact h
      · rw [Array.getElem?_eq_none h] at hg; cases hg
    obtain ⟨l, h1, h2⟩ := cels_of (d := d) (w := w) (base := base) (Q := Q) (ok := fun k => ok k ∧ k ≠ g) xs (chunks d.sz xs.length inner) (chunks_length _ _ _) hq (fun j x c hx hc => by
      rw [chunks_get hc]
      exact d.M_mono (fun k hk => ⟨hk.1, fun e_ => hk.2 (by rw [e_]; rfl)⟩) (hr.2 j x hx))
    refine ⟨g, cap, cur, rfl, h0 g rfl, hb, hgl, hg, hn, hm, hs, l, h1, ?_⟩
    have hrl : ∀ c ∈ l.map (·.c), c.length = d.sz := by
      intro c hc
      obtain ⟨z, _, rfl⟩ := List.mem_map.1 hc
      exact z.len
    rw [ht]
    apply List.ext_getElem?
    intro t
    have hll : (l.map (·.c)).length = xs.length := by rw [List.length_map, ← h1, List.length_map]
    by_cases htl : t < xs.length * d.sz
    · have hsz : 0 < d.sz := by
        rcases Nat.eq_zero_or_pos d.sz with h | h
        · rw [h] at htl; simp at htl
        · exact h
      have hdiv : t / d.sz < xs.length := (Nat.div_lt_iff_lt_mul hsz).2 htl
      have hc := chunks_at (sz := d.sz) (inner := inner) hdiv
      rw [← h2] at hc
      rw [flat_at hrl (by rw [hll]; exact htl) hc]
      have hmod := Nat.mod_lt t hsz
      rw [List.getElem?_take, if_pos hmod, List.getElem?_drop, Nat.mul_comm, Nat.div_add_mod]
    · rw [List.getElem?_eq_none (by rw [hlen]; omega), List.getElem?_eq_none (by rw [flat_lenK hrl, hll]; omega)]
theorem row_after {cur F : Array Value} {m : Nat} {os : Array Obj} (hg : w.heap[g]? = some (.cells cur e (0, 0))) (hF : F.size ≤ cur.size) (hW : W = grow (putRow id (Sort.ahead w m) g 0 F) os) :
    W.heap[g]? = some (.cells (putCells id 0 F cur) e (0, 0)) ∧ (∀ k, k ≠ g → k < w.heap.size → W.heap[k]? = w.heap[k]?) ∧ w.heap.size ≤ W.heap.size ∧ W.os = w.os ∧ W.tape = w.tape ∧ W.output = w.output ∧ (putCells id 0 F cur).size = cur.size ∧ (putCells id 0 F cur).toList.take F.size = F.toList := by
  subst hW
  have hgl : g < w.heap.size := by
    rcases Nat.lt_or_ge g w.heap.size with h | h
    · exact h
    · rw [Array.getElem?_eq_none h] at hg; cases hg
  have hp : ∀ k, k < w.heap.size → (grow (putRow id (Sort.ahead w m) g 0 F) os).heap[k]? = (w.heap.modify g (onCells (putCells id 0 F)))[k]? := by
    intro k hk
    show ((w.heap.modify g (onCells (putCells id 0 F))) ++ os)[k]? = _
    rw [Array.getElem?_append_left (by simpa using hk)]
  refine ⟨?_, ?_, ?_, rfl, rfl, rfl, by simp [putCells], ?_⟩
  · rw [hp g hgl, Array.getElem?_modify, if_pos rfl, hg]; rfl
  · intro k hk hlt
    rw [hp k hlt, Array.getElem?_modify, if_neg (fun e_ => hk e_.symm)]
  · show w.heap.size ≤ ((w.heap.modify g (onCells (putCells id 0 F))) ++ os).size
    simp
  · apply List.ext_getElem?
    intro t
    by_cases ht : t < F.size
    · rw [List.getElem?_take, if_pos ht, Array.getElem?_toList, Array.getElem?_toList]
      have htc : t < cur.size := by omega
      simp only [putCells, Array.getElem?_mapIdx, Array.getElem?_eq_getElem htc, Array.getElem?_eq_getElem ht, Option.map_some, Nat.zero_le, true_and, Nat.zero_add, ht, if_true, Nat.sub_zero, id]
      rw [getElem!_pos F t ht]
    · rw [List.getElem?_eq_none (by simp; omega), List.getElem?_eq_none (by simp; omega)]
theorem perm_list {β : Type} [Inhabited β] {D D' : Array β} (h : PermIn 0 D.size D D') : D'.toList.Perm D.toList := by
  obtain ⟨hs, _, hp⟩ := h
  have h1 : D.extract 0 D.size = D := by simp
  have h2 : D'.extract 0 D.size = D' := by rw [← hs]; simp
  rw [h1, h2] at hp
  exact hp
theorem sorted_list {β : Type} [Inhabited β] {lt : β → β → Bool} {D D' : Array β} (hs : D'.size = D.size) (h : SortedIn lt 0 D.size D') : D'.toList.Pairwise (fun a b => lt b a = false) := by
  rw [List.pairwise_iff_getElem]
  intro i j hi hj hij
  have hi' : i < D'.size := by simpa using hi
  have hj' : j < D'.size := by simpa using hj
  have := h i j (Nat.zero_le _) hij (by omega)
  rwa [getElem!_pos D' i hi', getElem!_pos D' j hj'] at this
theorem below_of {b : Nat} (hW : ∀ k, k ≠ g → k < w.heap.size → W.heap[k]? = w.heap[k]?) (hs : w.heap.size ≤ W.heap.size) (h1 : W.os = w.os) (h2 : W.tape = w.tape) (h3 : W.output = w.output) (hb : b ≤ g) (hg : g < w.heap.size) : Go.RowKit.Below b w W :=
  ⟨h1, h2, h3, hs, fun k hk => hW k (by omega) (by omega)⟩
structure Ord3 (Q : α → Prop) (cf : α → α → Int) : Prop where
  irr : ∀ x, Q x → ¬ cf x x < 0
  tr : ∀ x y z, Q x → Q y → Q z → cf x y < 0 → cf y z < 0 → cf x z < 0
  nt : ∀ x y z, Q x → Q y → Q z → ¬ cf x y < 0 → ¬ cf y z < 0 → ¬ cf x z < 0
theorem Ord3.swo {cf : α → α → Int} (h : Ord3 Q cf) : SWO (ltOf fun p q : Cel d Q w base ok => cf p.x q.x) where
  irrefl p := decide_eq_false (h.irr p.x p.q)
  trans p q r h1 h2 := decide_eq_true (h.tr p.x q.x r.x p.q q.q r.q (of_decide_eq_true h1) (of_decide_eq_true h2))
  ntrans p q r h1 h2 := decide_eq_false (h.nt p.x q.x r.x p.q q.q r.q (of_decide_eq_false h1) (of_decide_eq_false h2))
def SortedTo (d : Kd α) (cf : α → α → Int) (e : Nat) (w w' : World) (base : Nat) (ok : Nat → Prop) (v : Value) (xs : List α) : Prop :=
  ∃ xs' : List α, xs'.Perm xs ∧ xs'.Pairwise (fun a b => ¬ cf b a < 0) ∧ d.R e w' base ok v xs' ∧ Kept w w' (fun k => some k = v.ownBlock) ∧ Go.RowKit.Below base w w'
theorem sortedTo_nil {cf : α → α → Int} (h : d.R e w base ok v []) : SortedTo d cf e w w base ok v [] :=
  ⟨[], List.Perm.refl _, List.Pairwise.nil, h, Kept.refl _ _, Go.RowKit.Below.refl _ _⟩
theorem sortedTo_of {cf : α → α → Int} {D D' : Array (Cel d Q w base (fun k => ok k ∧ k ≠ g))} [Inhabited (Cel d Q w base (fun k => ok k ∧ k ≠ g))] {cur F : Array Value} {m : Nat} {os : Array Obj} (hD : D.toList.map (·.x) = xs) (hp : PermIn 0 D.size D D') (hs : SortedIn (ltOf fun p q : Cel d Q w base (fun k => ok k ∧ k ≠ g) => cf p.x q.x) 0 D.size D')
    (hF : F.toList = (D'.toList.map (·.c)).flatten) (hW : W = grow (putRow id (Sort.ahead w m) g 0 F) os) (hg0 : ok g) (hb : base ≤ g) (hgl : g < w.heap.size) (hg : w.heap[g]? = some (.cells cur e (0, 0))) (hn : xs.length ≤ cap) (hm : cap ≤ maxLen) (hc : cur.size = cap * d.sz) :
    SortedTo d cf e w W base ok (.slice (some ⟨g, 0, none⟩) xs.length cap) xs := by
  have hpl := perm_list hp
  have hlen : D'.toList.length = xs.length := by rw [hpl.length_eq, ← hD, List.length_map]
  have hFs : F.size = xs.length * d.sz := by
    have h1 : F.toList.length = _ := congrArg List.length hF
    rw [flat_lenK (fun c hc => by obtain ⟨z, _, rfl⟩ := List.mem_map.1 hc; exact z.len), List.length_map, hlen] at h1
    simpa using h1
  obtain ⟨a1, a2, a3, a4, a5, a6, a7, a8⟩ := row_after (W := W) hg (by rw [hFs, hc]; exact Nat.mul_le_mul_right _ hn) hW
  have hN := R_of_cells (l := D'.toList) (okk := ok) (base := base) (e := e) (cap := cap) hg0 hb a2 a1 (by omega) hm (by omega) (by rw [hlen, ← hFs, a8, hF]) (fun k hk => hk)
  rw [hlen] at hN
  refine ⟨D'.toList.map (·.x), ?_, ?_, hN, ⟨a3, fun k hk hne => a2 k (fun e_ => hne (by rw [e_]; rfl)) hk⟩, below_of a2 a3 a4 a5 a6 hb hgl⟩
  · rw [← hD]; exact hpl.map _
  · rw [List.pairwise_map]
    exact (sorted_list hp.1 hs).imp (fun h => of_decide_eq_false h)
end
section
variable {P : Program} {ρ : Ren} {α : Type} {d : Kd α} {Q : α → Prop} {w : World} {ok : Nat → Prop} {e base : Nat} {v : Value} {xs : List α}
set_option maxHeartbeats 2000000 in
theorem sortN1 (L : SlLaysF.n6 P ρ) (L0 : SlLaysF0.n6 P ρ) (hd : d.sz = 1) {cf : α → α → Int} (hO : Ord3 Q cf) (f : Nat)
    (eg : ∀ args w, (callFunc f args).run P w = .ok (.enter f args) w) (hc : ∀ (W : World) (x y : α) (cx cy : Value), Q x → Q y → d.K W x [cx] → d.K W y [cy] → Calls P f #[cx, cy] W fun e w' => e = .returned (.int .i64 (cf x y)) ∧ ∃ q os', w' = grow (W.drewN q) os')
    (h : d.R e w base ok v xs) (hq : ∀ x ∈ xs, Q x) (hsz : xs.length < 4611686018427387904) :
    Calls P (ρ.f 6) #[v, .func (.func f) #[] #[]] w fun e' w' => e' = .returned (.tuple #[]) ∧ SortedTo d cf e w w' base ok v xs := by
  rcases Nat.eq_zero_or_pos xs.length with h0 | hp
  · have hx : xs = [] := List.length_eq_zero_iff.1 h0
    subst hx
    obtain ⟨A, c, rfl⟩ := Kd.R_slice h
    exact (AnyF.slices_SortFunc_none L0 A c _ w).mono fun _ _ ⟨he, hw⟩ => ⟨he, by rw [hw]; exact sortedTo_nil h⟩
  · obtain ⟨g, cap, cur, rfl, hg0, hb, hgl, hg, hn, hm, hcs, l, hl1, hl2⟩ := R_cells h hq hp
    have hll : l.length = xs.length := by rw [← hl1, List.length_map]
    haveI : Inhabited (Cel d Q w base (fun k => ok k ∧ k ≠ g)) := ⟨l[0]'(by omega)⟩
    obtain ⟨enc, one⟩ : ∃ enc : Cel d Q w base (fun k => ok k ∧ k ≠ g) → Value, ∀ z, z.c = [enc z] := ⟨fun z => z.c.headD .nilIface, fun z => by
      have hz := z.len
      rw [hd] at hz
      obtain ⟨u, hu⟩ := List.length_eq_one_iff.1 hz
      show z.c = [z.c.headD .nilIface]
      rw [hu]; rfl⟩
    have hfl : ∀ r : List (Cel d Q w base (fun k => ok k ∧ k ≠ g)), (r.map (·.c)).flatten = r.map enc := by
      intro r
      induction r with
      | nil => rfl
      | cons z r ih => rw [List.map_cons, List.map_cons, List.flatten_cons, ih, one z]; rfl
    have hput : ∀ (w' : World) (D : Array (Cel d Q w base (fun k => ok k ∧ k ≠ g))), putRow enc w' g 0 D = putRow id w' g 0 (D.map enc) := by
      intro w' D
      unfold putRow
      apply mapBlock_congr
      intro c e fr _
      unfold putCells
      apply Array.ext
      · simp
      · intro i h1 h2
        simp only [Array.getElem_mapIdx, Array.size_map, id]
        by_cases hi : 0 ≤ i ∧ i < 0 + D.size
        · rw [if_pos hi, if_pos hi, getElem!_pos D _ (by omega), getElem!_pos (D.map _) _ (by simp; omega), Array.getElem_map]
        · rw [if_neg hi, if_neg hi]
    have hsw : ∀ m (D : Array (Cel d Q w base (fun k => ok k ∧ k ≠ g))) os, sortWorld enc w g 0 m D os = grow (putRow id (Sort.ahead w m) g 0 (D.map enc)) os := by
      intro m D os
      unfold sortWorld
      rw [hput]
    have hcs' : xs.length ≤ cur.size := by rw [hcs, hd]; omega
    have hsame : ∀ m (D : Array (Cel d Q w base (fun k => ok k ∧ k ≠ g))) os, D.size = xs.length → ∀ k, k ≠ g → k < w.heap.size → (sortWorld enc w g 0 m D os).heap[k]? = w.heap[k]? := by
      intro m D os hD
      rw [hsw]
      exact (row_after hg (F := D.map enc) (by rw [Array.size_map, hD]; exact hcs') rfl).2.1
    have hH : Holds enc w g 0 l.toArray := by
      intro j hj
      have hj' : j < l.length := by simpa using hj
      refine ⟨?_, ?_⟩
      · show w.cell? ⟨g, 0 + j, none⟩ = _
        rw [Nat.zero_add, getElem!_pos _ j hj]
        simp only [World.cell?, hg, Option.isSome_none, Bool.false_eq_true, if_false]
        rw [hd, Nat.mul_one, hfl] at hl2
        have h1 := congrArg (fun r => r[j]?) hl2
        simp only [List.getElem?_take, List.getElem?_map] at h1
        rw [if_pos (by omega), Array.getElem?_toList, List.getElem?_eq_getElem hj'] at h1
        rw [h1]
        rfl
      · simp [World.frozen?, hg]
    have key := Any.slices_SortFunc L enc (fun z => z.one _ (by rw [one z]; exact List.mem_singleton.2 rfl)) (fun p q => cf p.x q.x) hO.swo f #[] g 0 cap l.toArray w eg
      (fun m os dk hs p q => by
        have hh : ∀ (z : Cel d Q w base (fun k => ok k ∧ k ≠ g)), d.K (sortWorld enc w g 0 m dk os) z.x [enc z] := fun z => by
          have h1 := d.K_of_M (z.move (W := sortWorld enc w g 0 m dk os) (fun k hk hlt => hsame m dk os (by rw [hs]; simpa using hll) k hk.2 hlt))
          rw [one z] at h1
          exact h1
        exact hc _ p.x q.x _ _ p.q q.q (hh p) (hh q)) hH hgl (by simpa [hll] using hsz)
    have hsz' : l.toArray.size = xs.length := by simp [hll]
    rw [hsz'] at key
    refine key.mono ?_
    rintro e' w' ⟨rfl, D', n, os, hp', hs', rfl⟩
    rw [← hsz'] at hp' hs'
    refine ⟨rfl, ?_⟩
    rw [hsw n D' os]
    exact sortedTo_of (D := l.toArray) (D' := D') (F := D'.map enc) (by simpa using hl1) hp' hs' (by rw [Array.toList_map, hfl]) rfl hg0 hb hgl hg hn hm hcs
end
section
variable {α : Type} {d : Kd α} {Q : α → Prop} {w W : World} {ok : Nat → Prop} {e base g cap : Nat} {v : Value} {xs : List α}
theorem Ord3.fst {cf : α → α → Int} (h : Ord3 Q cf) : Ord3 (fun p : α × Nat => Q p.1) (fun p q => cf p.1 q.1) where
  irr p hp := h.irr p.1 hp
  tr p q r hp hq hr := h.tr p.1 q.1 r.1 hp hq hr
  nt p q r hp hq hr := h.nt p.1 q.1 r.1 hp hq hr
end
section
variable {α β : Type}
def cptGo (eqf : α → α → Bool) : α → List α → List α
  | _, [] => []
  | p, y :: r => if eqf y p then cptGo eqf y r else y :: cptGo eqf y r
def cpt (eqf : α → α → Bool) : List α → List α
  | [] => []
  | x :: r => x :: cptGo eqf x r
theorem cptGo_snoc (eqf : α → α → Bool) (x : α) : ∀ (p : α) (l : List α), cptGo eqf p (l ++ [x]) = cptGo eqf p l ++ (if eqf x ((p :: l).getLast (by simp)) then [] else [x])
  | p, [] => by
    show (if eqf x p then [] else [x]) = [] ++ (if eqf x p then [] else [x])
    rw [List.nil_append]
  | p, y :: r => by
    have e : (p :: y :: r).getLast (by simp) = (y :: r).getLast (by simp) := List.getLast_cons (by simp)
    rw [e]
    simp only [List.cons_append, cptGo]
    rw [cptGo_snoc eqf x y r]
    split <;> simp
theorem cpt_snoc (eqf : α → α → Bool) (x : α) (l : List α) (h : l ≠ []) : cpt eqf (l ++ [x]) = cpt eqf l ++ (if eqf x (l.getLast h) then [] else [x]) := by
  cases l with
  | nil => exact absurd rfl h
  | cons y r => simp only [List.cons_append, cpt]; rw [cptGo_snoc]
variable [Inhabited α]
def keepsB (eqf : α → α → Bool) (d : Array α) (j : Nat) : Bool := j == 0 || !(eqf d[j]! d[j - 1]!)
theorem cpt_take (eqf : α → α → Bool) (d : Array α) (m : Nat) (h : m < d.size) : cpt eqf (d.toList.take (m + 1)) = cpt eqf (d.toList.take m) ++ (if keepsB eqf d m then [d[m]!] else []) := by
  have hl : m < d.toList.length := by simpa using h
  rw [List.take_add_one, List.getElem?_eq_getElem hl]
  have hm : d.toList[m] = d[m]! := by rw [getElem!_pos d m h]; simp
  rw [hm]
  rcases Nat.eq_zero_or_pos m with h0 | h0
  · subst h0; simp [cpt, cptGo, keepsB]
  · have hne : d.toList.take m ≠ [] := by
      intro e_
      have h1 := congrArg List.length e_
      have h2 : d.toList.length = d.size := by simp
      rw [List.length_take, h2] at h1
      have h3 : min m d.size = 0 := h1
      omega
    show cpt eqf (d.toList.take m ++ [d[m]!]) = _
    rw [cpt_snoc eqf _ _ hne]
    have hlast : (d.toList.take m).getLast hne = d[m - 1]! := by
      rw [List.getLast_eq_getElem]
      have h1 : (d.toList.take m).length - 1 = m - 1 := by rw [List.length_take]; simp; omega
      simp only [h1, List.getElem_take]
      rw [getElem!_pos d (m - 1) (by omega)]
      simp
    rw [hlast]
    have : (m == 0) = false := by simp; omega
    simp only [keepsB, this, Bool.false_or]
    cases eqf d[m]! d[m - 1]! <;> simp
structure CompB (eqf : α → α → Bool) (d : Array α) (m k : Nat) (dk : Array α) : Prop where
  size : dk.size = d.size
  len : (cpt eqf (d.toList.take m)).length = k
  le : k ≤ m
  low : ∀ j, j < k → (cpt eqf (d.toList.take m))[j]? = some dk[j]!
  high : ∀ j, k ≤ j → dk[j]! = d[j]!
variable {eqf : α → α → Bool} {d dk : Array α} {m k : Nat}
theorem CompB.one (h : 0 < d.size) : CompB eqf d 1 1 d := by
  have h0 : d.toList.take 1 = [d[0]!] := by
    have := List.take_add_one (l := d.toList) (i := 0)
    rw [List.getElem?_eq_getElem (by simpa using h)] at this
    rw [this, getElem!_pos d 0 h]; simp
  refine ⟨rfl, by rw [h0]; rfl, Nat.le_refl _, fun j hj => ?_, fun _ _ => rfl⟩
  obtain rfl : j = 0 := by omega
  rw [h0]; rfl
theorem CompB.skip (h : CompB eqf d m k dk) (hm : m < d.size) (hk : keepsB eqf d m = false) : CompB eqf d (m + 1) k dk where
  size := h.size
  len := by rw [cpt_take eqf d m hm, hk]; simpa using h.len
  le := by have := h.le; omega
  low := fun j hj => by rw [cpt_take eqf d m hm, hk]; simpa using h.low j hj
  high := h.high
theorem CompB.keep (h : CompB eqf d m k dk) (hm : m < d.size) (hk : keepsB eqf d m = true) : CompB eqf d (m + 1) (k + 1) (dk.setIfInBounds k d[m]!) where
  size := by simp [h.size]
  len := by rw [cpt_take eqf d m hm, hk]; simp [h.len]
  le := by have := h.le; omega
  low := fun j hj => by
    rw [cpt_take eqf d m hm, hk, if_pos rfl]
    by_cases e_ : j = k
    · subst e_
      rw [List.getElem?_append_right (by rw [h.len]; exact Nat.le_refl _), h.len, Nat.sub_self, Go.Sort.getElem!_set_same dk j _ (by have := h.le; have := h.size; omega)]
      rfl
    · rw [List.getElem?_append_left (by rw [h.len]; omega), h.low j (by omega), Go.Sort.getElem!_set_other dk k j _ e_]
  high := fun j hj => by rw [Go.Sort.getElem!_set_other dk k j _ (by omega), h.high j (by omega)]
theorem CompB.same (h : CompB eqf d m m d) (hm : m < d.size) (hk : keepsB eqf d m = true) : CompB eqf d (m + 1) (m + 1) d where
  size := rfl
  len := by rw [cpt_take eqf d m hm, hk]; simp [h.len]
  le := Nat.le_refl _
  low := fun j hj => by
    rw [cpt_take eqf d m hm, hk, if_pos rfl]
    by_cases e_ : j = m
    · subst e_
      rw [List.getElem?_append_right (by rw [h.len]; exact Nat.le_refl _), h.len, Nat.sub_self]
      rfl
    · rw [List.getElem?_append_left (by rw [h.len]; omega), h.low j (by omega)]
  high := fun _ _ => rfl
theorem CompB.done (h : CompB eqf d d.size k dk) : dk.toList.take k = cpt eqf d.toList ∧ k = (cpt eqf d.toList).length := by
  have ht : d.toList.take d.size = d.toList := by rw [List.take_of_length_le]; simp
  have hl := h.len
  have hlow := h.low
  rw [ht] at hl hlow
  refine ⟨?_, hl.symm⟩
  apply List.ext_getElem?
  intro j
  have hle := h.le
  have hsz := h.size
  by_cases hj : j < k
  · rw [List.getElem?_take, if_pos hj, hlow j hj, Array.getElem?_toList, Array.getElem?_eq_getElem (by omega), getElem!_pos dk j (by omega)]
  · rw [List.getElem?_eq_none (by simp; omega), List.getElem?_eq_none (by omega)]
end
section
variable {α : Type} {d : Kd α} {Q : α → Prop} {w W W' : World} {ok : Nat → Prop} {e base g cap : Nat} {v : Value} {xs : List α}
end
end Go.Proofs.Ytcggfjpnfodbaaa.M
end
section
/- What the library's sort asks of this program: each by the kernel. No conditions. -/
namespace Go.Proofs
open Go.Shelf
def Try.sortA60_ren : Go.Shelf.Ren := ⟨fun | 6 => 60 | 15 => 98 | 14 => 97 | 28 => 138 | 29 => 139 | 20 => 130 | 21 => 131 | 22 => 132 | 23 => 133 | 24 => 134 | 25 => 135 | 26 => 136 | 27 => 137 | 46 => 155 | 47 => 156 | 48 => 157 | 49 => 158 | 50 => 159 | 57 => 165 | n => n, fun | 22 => 23 | 24 => 3 | 25 => 71 | 3 => 3 | 39 => 102 | 0 => 0 | 53 => 126 | 55 => 128 | 4 => 4 | 46 => 119 | 45 => 118 | 50 => 123 | 5 => 5 | 9 => 9 | 66 => 132 | 70 => 136 | 76 => 140 | 77 => 141 | n => n, fun | n => n⟩
theorem Try.sortA60 : Go.Proofs.SlLaysF.n6 Try.prog Try.sortA60_ren := {
  mixed := by kernel_rfl
  f6 := ⟨Try.f60.name, by decide, Try.func60.trans (congrArg some (by kernel_rfl))⟩
  f14 := ⟨Try.f97.name, by decide, Try.func97.trans (congrArg some (by kernel_rfl))⟩
  f15 := Try.func98.trans (congrArg some (by kernel_rfl))
  f20 := ⟨Try.f130.name, by decide, Try.func130.trans (congrArg some (by kernel_rfl))⟩
  f21 := ⟨Try.f131.name, by decide, Try.func131.trans (congrArg some (by kernel_rfl))⟩
  f22 := ⟨Try.f132.name, by decide, Try.func132.trans (congrArg some (by kernel_rfl))⟩
  f23 := ⟨Try.f133.name, by decide, Try.func133.trans (congrArg some (by kernel_rfl))⟩
  f24 := ⟨Try.f134.name, by decide, Try.func134.trans (congrArg some (by kernel_rfl))⟩
  f25 := ⟨Try.f135.name, by decide, Try.func135.trans (congrArg some (by kernel_rfl))⟩
  f26 := ⟨Try.f136.name, by decide, Try.func136.trans (congrArg some (by kernel_rfl))⟩
  f27 := ⟨Try.f137.name, by decide, Try.func137.trans (congrArg some (by kernel_rfl))⟩
  f28 := Try.func138.trans (congrArg some (by kernel_rfl))
  f29 := Try.func139.trans (congrArg some (by kernel_rfl))
  f46 := ⟨Try.f155.name, by decide, Try.func155.trans (congrArg some (by kernel_rfl))⟩
  f47 := Try.func156.trans (congrArg some (by kernel_rfl))
  f48 := Try.func157.trans (congrArg some (by kernel_rfl))
  f49 := ⟨Try.f158.name, by decide, Try.func158.trans (congrArg some (by kernel_rfl))⟩
  f50 := ⟨Try.f159.name, by decide, Try.func159.trans (congrArg some (by kernel_rfl))⟩
  f57 := ⟨Try.f165.name, by decide, Try.func165.trans (congrArg some (by kernel_rfl))⟩
  t0 := Try.underlying0
  a0 := Try.isAgg0
  z0 := Try.sizeOf0
  v0 := Try.zeroValue0
  t3 := Try.underlying3
  a3 := Try.isAgg3
  z3 := Try.sizeOf3
  v3 := Try.zeroValue3
  t4 := Try.underlying4
  a4 := Try.isAgg4
  z4 := Try.sizeOf4
  v4 := Try.zeroValue4
  t5 := Try.underlying5
  a5 := Try.isAgg5
  z5 := Try.sizeOf5
  v5 := Try.zeroValue5
  t9 := Try.underlying9
  a9 := Try.isAgg9
  z9 := Try.sizeOf9
  v9 := Try.zeroValue9
  t22 := Try.underlying23
  a22 := Try.isAgg23
  z22 := Try.sizeOf23
  v22 := Try.zeroValue23
  a24 := Try.isAgg3
  z24 := Try.sizeOf3
  t25 := Try.underlying71
  a25 := Try.isAgg71
  z25 := Try.sizeOf71
  v25 := Try.zeroValue71
  t39 := Try.underlying102
  a39 := Try.isAgg102
  z39 := Try.sizeOf102
  v39 := Try.zeroValue102
  t45 := Try.underlying118
  a45 := Try.isAgg118
  z45 := Try.sizeOf118
  v45 := Try.zeroValue118
  t46 := Try.underlying119
  a46 := Try.isAgg119
  z46 := Try.sizeOf119
  v46 := Try.zeroValue119
  t50 := Try.underlying123
  a50 := Try.isAgg123
  z50 := Try.sizeOf123
  v50 := Try.zeroValue123
  t53 := Try.underlying126
  a53 := Try.isAgg126
  z53 := Try.sizeOf126
  v53 := Try.zeroValue126
  t55 := Try.underlying128
  a55 := Try.isAgg128
  z55 := Try.sizeOf128
  v55 := Try.zeroValue128
  t66 := Try.underlying132
  a66 := Try.isAgg132
  z66 := Try.sizeOf132
  v66 := Try.zeroValue132
  t70 := Try.underlying136
  a70 := Try.isAgg136
  z70 := Try.sizeOf136
  v70 := Try.zeroValue136
  t76 := Try.underlying140
  a76 := Try.isAgg140
  z76 := Try.sizeOf140
  v76 := Try.zeroValue140
  t77 := Try.underlying141
  a77 := Try.isAgg141
  z77 := Try.sizeOf141
  v77 := Try.zeroValue141 }
def Try.sortB60_ren : Go.Shelf.Ren := ⟨fun | 6 => 60 | 15 => 98 | 14 => 97 | 28 => 138 | 29 => 139 | 20 => 130 | 21 => 131 | 22 => 132 | 23 => 133 | 24 => 134 | 25 => 135 | 26 => 136 | 27 => 137 | 46 => 155 | 47 => 156 | 48 => 157 | 49 => 158 | 50 => 159 | 57 => 165 | n => n, fun | 22 => 23 | 24 => 3 | 25 => 71 | 3 => 3 | 39 => 102 | 0 => 0 | 53 => 126 | 55 => 128 | 4 => 4 | 46 => 119 | 45 => 118 | 50 => 123 | 5 => 5 | 9 => 9 | 66 => 132 | 70 => 136 | 76 => 140 | 77 => 141 | n => n, fun | n => n⟩
theorem Try.sortB60 : Go.Proofs.SlLaysF0.n6 Try.prog Try.sortB60_ren := {
  mixed := by kernel_rfl
  f6 := ⟨Try.f60.name, by decide, Try.func60.trans (congrArg some (by kernel_rfl))⟩
  f14 := ⟨Try.f97.name, by decide, Try.func97.trans (congrArg some (by kernel_rfl))⟩
  f15 := Try.func98.trans (congrArg some (by kernel_rfl))
  f20 := ⟨Try.f130.name, by decide, Try.func130.trans (congrArg some (by kernel_rfl))⟩
  f21 := ⟨Try.f131.name, by decide, Try.func131.trans (congrArg some (by kernel_rfl))⟩
  f22 := ⟨Try.f132.name, by decide, Try.func132.trans (congrArg some (by kernel_rfl))⟩
  f23 := ⟨Try.f133.name, by decide, Try.func133.trans (congrArg some (by kernel_rfl))⟩
  f24 := ⟨Try.f134.name, by decide, Try.func134.trans (congrArg some (by kernel_rfl))⟩
  f25 := ⟨Try.f135.name, by decide, Try.func135.trans (congrArg some (by kernel_rfl))⟩
  f26 := ⟨Try.f136.name, by decide, Try.func136.trans (congrArg some (by kernel_rfl))⟩
  f27 := ⟨Try.f137.name, by decide, Try.func137.trans (congrArg some (by kernel_rfl))⟩
  f28 := Try.func138.trans (congrArg some (by kernel_rfl))
  f29 := Try.func139.trans (congrArg some (by kernel_rfl))
  f46 := ⟨Try.f155.name, by decide, Try.func155.trans (congrArg some (by kernel_rfl))⟩
  f47 := Try.func156.trans (congrArg some (by kernel_rfl))
  f48 := Try.func157.trans (congrArg some (by kernel_rfl))
  f49 := ⟨Try.f158.name, by decide, Try.func158.trans (congrArg some (by kernel_rfl))⟩
  f50 := ⟨Try.f159.name, by decide, Try.func159.trans (congrArg some (by kernel_rfl))⟩
  f57 := ⟨Try.f165.name, by decide, Try.func165.trans (congrArg some (by kernel_rfl))⟩
  t0 := Try.underlying0
  a0 := Try.isAgg0
  z0 := Try.sizeOf0
  v0 := Try.zeroValue0
  t3 := Try.underlying3
  a3 := Try.isAgg3
  z3 := Try.sizeOf3
  v3 := Try.zeroValue3
  t4 := Try.underlying4
  a4 := Try.isAgg4
  z4 := Try.sizeOf4
  v4 := Try.zeroValue4
  t5 := Try.underlying5
  a5 := Try.isAgg5
  z5 := Try.sizeOf5
  v5 := Try.zeroValue5
  t9 := Try.underlying9
  a9 := Try.isAgg9
  z9 := Try.sizeOf9
  v9 := Try.zeroValue9
  t22 := Try.underlying23
  a22 := Try.isAgg23
  z22 := Try.sizeOf23
  v22 := Try.zeroValue23
  t25 := Try.underlying71
  a25 := Try.isAgg71
  z25 := Try.sizeOf71
  v25 := Try.zeroValue71
  t39 := Try.underlying102
  a39 := Try.isAgg102
  z39 := Try.sizeOf102
  v39 := Try.zeroValue102
  t45 := Try.underlying118
  a45 := Try.isAgg118
  z45 := Try.sizeOf118
  v45 := Try.zeroValue118
  t46 := Try.underlying119
  a46 := Try.isAgg119
  z46 := Try.sizeOf119
  v46 := Try.zeroValue119
  t50 := Try.underlying123
  a50 := Try.isAgg123
  z50 := Try.sizeOf123
  v50 := Try.zeroValue123
  t53 := Try.underlying126
  a53 := Try.isAgg126
  z53 := Try.sizeOf126
  v53 := Try.zeroValue126
  t55 := Try.underlying128
  a55 := Try.isAgg128
  z55 := Try.sizeOf128
  v55 := Try.zeroValue128
  t66 := Try.underlying132
  a66 := Try.isAgg132
  z66 := Try.sizeOf132
  v66 := Try.zeroValue132
  t70 := Try.underlying136
  a70 := Try.isAgg136
  z70 := Try.sizeOf136
  v70 := Try.zeroValue136
  t76 := Try.underlying140
  a76 := Try.isAgg140
  z76 := Try.sizeOf140
  v76 := Try.zeroValue140
  t77 := Try.underlying141
  a77 := Try.isAgg141
  z77 := Try.sizeOf141
  v77 := Try.zeroValue141 }
end Go.Proofs
end
section
/- Plain mathematics: permutations as lists of numbers. No conditions. -/
namespace Go.Proofs.Ytcggfjpnfodbaaa.M
set_option linter.unusedVariables false
set_option linter.unusedSimpArgs false
def I (l : List Nat) : List Int := l.map Int.ofNat
def g (p : List Nat) (i : Nat) : Nat := p.getD i 0
def tab (n : Nat) (f : Nat → Nat) : List Nat := (List.range n).map f
theorem I_len (l : List Nat) : (I l).length = l.length := by simp [I]
theorem I_inj {a b : List Nat} (h : I a = I b) : a = b := by
  unfold I at h
  exact (List.map_inj_right (fun x y hxy => Int.ofNat.inj hxy)).mp h
theorem tab_len (n : Nat) (f : Nat → Nat) : (tab n f).length = n := by simp [tab]
theorem g_tab {n : Nat} {f : Nat → Nat} {i : Nat} (h : i < n) : g (tab n f) i = f i := by simp [g, tab, List.getD_eq_getElem?_getD, h]
theorem g_get {p : List Nat} {i : Nat} (h : i < p.length) : g p i = p[i] := by simp [g, List.getD_eq_getElem?_getD, h]
theorem g_mem {p : List Nat} {i : Nat} (h : i < p.length) : g p i ∈ p := by rw [g_get h]; exact List.getElem_mem h
theorem mem_g {p : List Nat} {x : Nat} (h : x ∈ p) : ∃ i, i < p.length ∧ g p i = x := by
  obtain ⟨i, hi, rfl⟩ := List.mem_iff_getElem.mp h
  exact ⟨i, hi, g_get hi⟩
theorem ext_g {a b : List Nat} (hl : a.length = b.length) (h : ∀ i, i < a.length → g a i = g b i) : a = b := by
  apply List.ext_getElem hl
  intro i h1 h2
  rw [← g_get h1, ← g_get h2]
  exact h i h1
theorem eq_tab {l : List Nat} {n : Nat} {f : Nat → Nat} (hl : l.length = n) (h : ∀ i, i < n → g l i = f i) : l = tab n f :=
  ext_g (by rw [tab_len, hl]) (fun i hi => by rw [hl] at hi; rw [g_tab hi, h i hi])
theorem g_set {p : List Nat} {i x j : Nat} (h : i < p.length) : g (p.set i x) j = if i = j then x else g p j := by
  unfold g
  rw [List.getD_eq_getElem?_getD, List.getD_eq_getElem?_getD, List.getElem?_set]
  by_cases e : i = j
  · subst e
    simp [h]
  · simp [e]
theorem I_set (p : List Nat) (i x : Nat) : (I p).set i (x : Int) = I (p.set i x) := by simp [I, List.map_set]
theorem I_app (p q : List Nat) : I p ++ I q = I (p ++ q) := by simp [I]
theorem I_one (x : Nat) : I [x] = [(x : Int)] := rfl
theorem I_snoc (p : List Nat) (x : Nat) : I p ++ [(x : Int)] = I (p ++ [x]) := by simp [I]
theorem I_nil : I [] = [] := rfl
theorem I_rep (n x : Nat) : I (List.replicate n x) = List.replicate n (x : Int) := by simp [I]
structure IsP (p : List Nat) : Prop where
  lt : ∀ x ∈ p, x < p.length
  nd : p.Nodup
instance (p : List Nat) : Decidable (IsP p) := decidable_of_iff ((∀ x ∈ p, x < p.length) ∧ p.Nodup) ⟨fun h => ⟨h.1, h.2⟩, fun h => ⟨h.lt, h.nd⟩⟩
theorem nodup_le (n : Nat) : ∀ l : List Nat, l.Nodup → (∀ x ∈ l, x < n) → l.length ≤ n := by
  induction n with
  | zero =>
    intro l _ h
    cases l with
    | nil => simp
    | cons a l => exact absurd (h a (by simp)) (by omega)
  | succ n ih =>
    intro l hn h
    have h1 := ih (l.erase n) (hn.erase n) (fun x hx => by
      have h2 := (List.Nodup.mem_erase_iff hn).mp hx
      have h3 := h x h2.2
      have h4 := h2.1
      omega)
    have h5 := @List.length_erase _ _ _ n l
    split at h5 <;> omega
theorem mem_all {p : List Nat} (hp : IsP p) {x : Nat} (h : x < p.length) : x ∈ p := by
  apply Classical.byContradiction
  intro hx
  have := nodup_le p.length (x :: p) (List.nodup_cons.mpr ⟨hx, hp.nd⟩) (fun y hy => by
    rcases List.mem_cons.mp hy with rfl | hy
    · exact h
    · exact hp.lt y hy)
  simp at this
  omega
theorem g_lt {p : List Nat} (hp : IsP p) {i : Nat} (h : i < p.length) : g p i < p.length := hp.lt _ (g_mem h)
theorem g_inj {p : List Nat} (hp : IsP p) {i j : Nat} (hi : i < p.length) (hj : j < p.length) (h : g p i = g p j) : i = j := by
  rw [g_get hi, g_get hj] at h
  have hw := List.pairwise_iff_getElem.mp hp.nd
  rcases Nat.lt_trichotomy i j with hij | hij | hij
  · exact absurd h (hw i j hi hj hij)
  · exact hij
  · exact absurd h.symm (hw j i hj hi hij)
def ix (p : List Nat) (x : Nat) : Nat := p.idxOf x
theorem ix_lt {p : List Nat} (hp : IsP p) {x : Nat} (h : x < p.length) : ix p x < p.length := List.idxOf_lt_length_of_mem (mem_all hp h)
theorem g_ix {p : List Nat} (hp : IsP p) {x : Nat} (h : x < p.length) : g p (ix p x) = x := by
  rw [g_get (ix_lt hp h)]
  exact List.getElem_idxOf (ix_lt hp h)
theorem ix_g {p : List Nat} (hp : IsP p) {i : Nat} (h : i < p.length) : ix p (g p i) = i :=
  g_inj hp (ix_lt hp (g_lt hp h)) h (g_ix hp (g_lt hp h))
theorem ix_eq {p : List Nat} (hp : IsP p) {i x : Nat} (h : i < p.length) (e : g p i = x) : ix p x = i := by rw [← e]; exact ix_g hp h
theorem isP_mk {p : List Nat} (h1 : ∀ i, i < p.length → g p i < p.length) (h2 : ∀ i j, i < p.length → j < p.length → g p i = g p j → i = j) : IsP p := by
  refine ⟨fun x hx => ?_, ?_⟩
  · obtain ⟨i, hi, rfl⟩ := mem_g hx
    exact h1 i hi
  · refine List.pairwise_iff_getElem.mpr ?_
    intro i j hi hj hij e'
    rw [← g_get hi, ← g_get hj] at e'
    have := h2 i j hi hj e'
    omega
theorem isP_tab {n : Nat} {f : Nat → Nat} (h1 : ∀ i, i < n → f i < n) (h2 : ∀ i j, i < n → j < n → f i = f j → i = j) : IsP (tab n f) := by
  refine isP_mk (fun i hi => ?_) (fun i j hi hj e => ?_)
  · rw [tab_len] at hi ⊢; rw [g_tab hi]; exact h1 i hi
  · rw [tab_len] at hi hj; rw [g_tab hi, g_tab hj] at e; exact h2 i j hi hj e
def inv (p : List Nat) : List Nat := tab p.length (ix p)
theorem inv_len (p : List Nat) : (inv p).length = p.length := tab_len _ _
theorem g_inv {p : List Nat} {i : Nat} (h : i < p.length) : g (inv p) i = ix p i := g_tab h
theorem isP_inv {p : List Nat} (hp : IsP p) : IsP (inv p) := isP_tab (fun i hi => ix_lt hp hi) (fun i j hi hj e => by rw [← g_ix hp hi, ← g_ix hp hj, e])
def thn (p q : List Nat) : List Nat := tab p.length (fun i => g q (g p i))
theorem thn_len (p q : List Nat) : (thn p q).length = p.length := tab_len _ _
theorem g_thn {p q : List Nat} {i : Nat} (h : i < p.length) : g (thn p q) i = g q (g p i) := g_tab h
theorem isP_thn {p q : List Nat} (hp : IsP p) (hq : IsP q) (hl : p.length = q.length) : IsP (thn p q) :=
  isP_tab (fun i hi => by have h1 := g_lt hp hi; have h2 := g_lt hq (i := g p i) (by omega); omega)
    (fun i j hi hj e => g_inj hp hi hj (g_inj hq (by have := g_lt hp hi; omega) (by have := g_lt hp hj; omega) e))
def ren (p names : List Nat) : List Nat := tab p.length (fun j => g names (g p (ix names j)))
theorem ren_len (p names : List Nat) : (ren p names).length = p.length := tab_len _ _
theorem g_ren {p names : List Nat} {j : Nat} (h : j < p.length) : g (ren p names) j = g names (g p (ix names j)) := g_tab h
theorem isP_ren {p names : List Nat} (hp : IsP p) (hn : IsP names) (hl : p.length = names.length) : IsP (ren p names) := by
  refine isP_tab (fun i hi => ?_) (fun i j hi hj e => ?_)
  · have h1 := ix_lt hn (x := i) (by omega)
    have h2 := g_lt hp (i := ix names i) (by omega)
    have h3 := g_lt hn (i := g p (ix names i)) (by omega)
    omega
  · have h1 := ix_lt hn (x := i) (by omega)
    have h2 := ix_lt hn (x := j) (by omega)
    have h3 := g_lt hp (i := ix names i) (by omega)
    have h4 := g_lt hp (i := ix names j) (by omega)
    have h5 := g_inj hn (by omega) (by omega) e
    have h6 := g_inj hp (by omega) (by omega) h5
    have h7 := g_ix hn (x := i) (by omega)
    have h8 := g_ix hn (x := j) (by omega)
    rw [← h7, ← h8, h6]
end Go.Proofs.Ytcggfjpnfodbaaa.M
end
section
/- Plain mathematics: going round a permutation. No conditions. -/
namespace Go.Proofs.Ytcggfjpnfodbaaa.M
set_option linter.unusedVariables false
set_option linter.unusedSimpArgs false
def itr (p : List Nat) : Nat → Nat → Nat
  | 0, s => s
  | m + 1, s => g p (itr p m s)
theorem itr_lt {p : List Nat} (hp : IsP p) (m : Nat) {s : Nat} (hs : s < p.length) : itr p m s < p.length := by
  induction m with
  | zero => exact hs
  | succ m ih => exact g_lt hp ih
theorem itr_add (p : List Nat) (a b s : Nat) : itr p (a + b) s = itr p a (itr p b s) := by
  induction a with
  | zero => simp [itr]
  | succ a ih =>
    have e : a + 1 + b = (a + b) + 1 := by omega
    rw [e, itr, itr, ih]
theorem itr_back {p : List Nat} (hp : IsP p) {s : Nat} (hs : s < p.length) (i d : Nat) (h : itr p (i + d) s = itr p i s) : itr p d s = s := by
  induction i with
  | zero =>
    have e : 0 + d = d := by omega
    rw [e] at h
    exact h
  | succ i ih =>
    have e : i + 1 + d = (i + d) + 1 := by omega
    rw [e] at h
    exact ih (g_inj hp (itr_lt hp _ hs) (itr_lt hp _ hs) h)
theorem period {p : List Nat} (hp : IsP p) {s : Nat} (hs : s < p.length) : ∃ m, 1 ≤ m ∧ m ≤ p.length ∧ itr p m s = s := by
  apply Classical.byContradiction
  intro hn
  have hd : ((List.range (p.length + 1)).map (fun m => itr p m s)).Nodup := by
    refine List.pairwise_map.mpr ?_
    refine List.pairwise_iff_getElem.mpr ?_
    intro i j hi hj hij
    rw [List.length_range] at hi hj
    rw [List.getElem_range, List.getElem_range]
    intro e
    have : itr p (j - i) s = s := itr_back hp hs i (j - i) (by
      have e2 : i + (j - i) = j := by omega
      rw [e2]
      exact e.symm)
    exact hn ⟨j - i, by omega, by omega, this⟩
  have := nodup_le p.length _ hd (fun x hx => by
    obtain ⟨m, _, rfl⟩ := List.mem_map.mp hx
    exact itr_lt hp m hs)
  simp at this
  omega
def per (p : List Nat) (s : Nat) : Nat := (((List.range p.length).find? (fun m => itr p (m + 1) s == s)).getD 0) + 1
def orbTo (p : List Nat) (s m : Nat) : List Nat := (List.range m).map (fun k => itr p k s)
def orb (p : List Nat) (s : Nat) : List Nat := orbTo p s (per p s)
def cyc (p : List Nat) : Nat → List (List Nat)
  | 0 => []
  | i + 1 => if ∃ c ∈ cyc p i, i ∈ c then cyc p i else cyc p i ++ [orb p i]
def cycles (p : List Nat) : List (List Nat) := cyc p p.length
end Go.Proofs.Ytcggfjpnfodbaaa.M
end
section
/- Plain mathematics: lists that fall, and the lengths of cycles. No conditions. -/
namespace Go.Proofs.Ytcggfjpnfodbaaa.M
set_option linter.unusedVariables false
set_option linter.unusedSimpArgs false
def insD (x : Nat) : List Nat → List Nat
  | [] => [x]
  | y :: l => if y < x then x :: y :: l else y :: insD x l
def sortD (l : List Nat) : List Nat := l.foldl (fun a x => insD x a) []
def Fall (l : List Nat) : Prop := l.Pairwise (fun a b => b ≤ a)
theorem insD_perm (x : Nat) (l : List Nat) : (insD x l).Perm (x :: l) := by
  induction l with
  | nil => exact List.Perm.refl _
  | cons y l ih =>
    unfold insD
    split
    · exact List.Perm.refl _
    · exact (List.Perm.cons y ih).trans (List.Perm.swap x y l)
theorem insD_fall {x : Nat} {l : List Nat} (h : Fall l) : Fall (insD x l) := by
  induction l with
  | nil => exact List.pairwise_singleton _ _
  | cons y l ih =>
    obtain ⟨h1, h2⟩ := List.pairwise_cons.mp h
    unfold insD
    split
    · rename_i hy
      refine List.pairwise_cons.mpr ⟨fun b hb => ?_, h⟩
      rcases List.mem_cons.mp hb with rfl | hb
      · omega
      · have := h1 b hb
        omega
    · rename_i hy
      refine List.pairwise_cons.mpr ⟨fun b hb => ?_, ih h2⟩
      rcases List.mem_cons.mp ((insD_perm x l).mem_iff.mp hb) with rfl | hb
      · omega
      · exact h1 b hb
theorem sortD_aux : ∀ (l a : List Nat), Fall a → Fall (l.foldl (fun a x => insD x a) a) ∧ (l.foldl (fun a x => insD x a) a).Perm (a ++ l) := by
  intro l
  induction l with
  | nil => intro a h; exact ⟨h, by simp⟩
  | cons x l ih =>
    intro a h
    obtain ⟨h1, h2⟩ := ih (insD x a) (insD_fall h)
    refine ⟨h1, h2.trans ?_⟩
    exact ((insD_perm x a).append_right l).trans (List.perm_middle (l₁ := a) (a := x) (l₂ := l)).symm
theorem sortD_fall (l : List Nat) : Fall (sortD l) := (sortD_aux l [] List.Pairwise.nil).1
theorem sortD_perm (l : List Nat) : (sortD l).Perm l := (sortD_aux l [] List.Pairwise.nil).2
theorem fall_uniq : ∀ {a b : List Nat}, Fall a → Fall b → a.Perm b → a = b := by
  intro a
  induction a with
  | nil => intro b _ _ h; exact (List.nil_perm.mp h).symm
  | cons x a ih =>
    intro b ha hb h
    cases b with
    | nil => exact absurd (List.perm_nil.mp h) (by simp)
    | cons y b =>
      obtain ⟨a1, a2⟩ := List.pairwise_cons.mp ha
      obtain ⟨b1, b2⟩ := List.pairwise_cons.mp hb
      have e : x = y := by
        have h1 : x ∈ y :: b := h.mem_iff.mp (by simp)
        have h2 : y ∈ x :: a := h.mem_iff.mpr (by simp)
        rcases List.mem_cons.mp h1 with e | h1
        · exact e
        · rcases List.mem_cons.mp h2 with e | h2
          · exact e.symm
          · have := b1 x h1
            have := a1 y h2
            omega
      subst e
      rw [ih a2 b2 (List.Perm.cons_inv h)]
theorem sortD_len (l : List Nat) : (sortD l).length = l.length := (sortD_perm l).length_eq
theorem insD_len (x : Nat) (l : List Nat) : (insD x l).length = l.length + 1 := by rw [(insD_perm x l).length_eq]; rfl
theorem insD_at {x : Nat} : ∀ {a : List Nat}, Fall a → ∀ k, k ≤ a.length → (∀ y ∈ a.drop k, y < x) → (k = 0 ∨ x ≤ g a (k - 1)) → insD x a = a.take k ++ x :: a.drop k := by
  intro a
  induction a with
  | nil => intro _ k hk _ _; simp [insD]
  | cons y a ih =>
    intro h k hk h1 h2
    obtain ⟨a1, a2⟩ := List.pairwise_cons.mp h
    cases k with
    | zero =>
      have : y < x := h1 y (by simp)
      simp [insD, this]
    | succ k =>
      have hy : x ≤ y := by
        rcases h2 with h2 | h2
        · omega
        · cases k with
          | zero => exact h2
          | succ k =>
            have e : g (y :: a) (k + 1 + 1 - 1) = g a k := rfl
            rw [e] at h2
            have hk' : k < a.length := by simp at hk; omega
            have := a1 (g a k) (g_mem hk')
            omega
      have hny : ¬ y < x := by omega
      simp only [insD, hny, if_false, List.take_succ_cons, List.drop_succ_cons, List.cons_append]
      rw [ih a2 k (by simpa using hk) (fun z hz => h1 z (by simpa using hz)) ?_]
      rcases h2 with h2 | h2
      · omega
      · cases k with
        | zero => exact .inl rfl
        | succ k => exact .inr h2
end Go.Proofs.Ytcggfjpnfodbaaa.M
end
section
namespace Go.Proofs.Ytcggfjpnfodbaaa.A
open Go.RowKit Go.Proofs.YtcggfjpnfodbaaaW.PrintWords Go.Proofs.YtcggfjpnfodbaaaW.PrintLast Go.Proofs.YtcggfjpnfodbaaaW.PrintMore
attribute [local go_sem] max2_int min2_int max_two min_two max_three min_three max_four min_four
set_option linter.unusedVariables false
set_option linter.unusedSimpArgs false
def slices_SortFunc_int_int.f (l0 : List Int) : Option (List Int) := if (∀ x ∈ l0, 0 ≤ x ∧ x ≤ 4611686018427387904) ∧ l0.length < 4611686018427387904 then some ((M.sortD (l0.map Int.toNat)).map fun (n : Nat) => (n : Int)) else none
theorem slices_SortFunc_int_int.closure (x y : Int) (W : World) : Calls Try.prog 61 #[.int .i64 x, .int .i64 y] W fun e w' => e = .returned (.int .i64 (wrap64 (y - x))) ∧ ∃ q os', w' = Go.Sort.grow (W.drewN q) os' := by
  go_enter Try.func61, Try.ntmps61
  go_wp2
  go_ret
  exact ⟨by first | rfl | (rw [i64_w]), 0, #[], by rw [Go.Sort.grow_empty]; rfl⟩
theorem slices_SortFunc_int_int.ord : M.Ord3 (fun x : Int => 0 ≤ x ∧ x ≤ 4611686018427387904) (fun x y => wrap64 (y - x)) where
  irr x hx := by unfold wrap64; omega
  tr x y z hx hy hz h1 h2 := by unfold wrap64 at *; omega
  nt x y z hx hy hz h1 h2 := by unfold wrap64 at *; omega
set_option maxHeartbeats 8000000 in
set_option maxRecDepth 100000 in
theorem slices_SortFunc_int_int.calls (P0_ : Nat → Prop) (u9000_ : Value) (l0 : List Int) (r : List Int) (w0 w : World) (hB : Below w0.heap.size w0 w) (ho0 : Kd.R (Kd.int .i64) 3 w w0.heap.size P0_ u9000_ l0) (h : slices_SortFunc_int_int.f l0 = some r) :
    Calls Try.prog 60 #[u9000_, .func (.func 61) #[] #[]] w fun e w' => e = .returned (.tuple #[]) ∧ Kd.R (Kd.int .i64) 3 w' w0.heap.size (fun k_ => (P0_ k_ ∨ w.heap.size ≤ k_)) u9000_ r ∧ Below w0.heap.size w0 w' ∧ Kept w w' (fun k_ => P0_ k_) := by
  unfold slices_SortFunc_int_int.f at h
  split at h
  · rename_i hq
    obtain rfl := Option.some.inj h
    have key := M.sortN1 (d := Kd.int .i64) (Q := fun x : Int => 0 ≤ x ∧ x ≤ 4611686018427387904) (cf := fun x y => wrap64 (y - x)) Try.sortA60 Try.sortB60 rfl slices_SortFunc_int_int.ord 61 (enters_of Try.func61 (by kernel_rfl) rfl)
      (fun W x y cx cy _ _ hx hy => by
        have e1 : cx = .int .i64 x := (List.cons.inj hx).1
        have e2 : cy = .int .i64 y := (List.cons.inj hy).1
        subst e1 e2
        exact slices_SortFunc_int_int.closure x y W) ho0 hq.1 hq.2
    refine key.mono ?_
    rintro e w' ⟨rfl, xs', hp, hs, hR, hK, hB2⟩
    have hx : xs' = (M.sortD (l0.map Int.toNat)).map fun (n : Nat) => (n : Int) := by
      have hnn : ∀ x ∈ xs', 0 ≤ x ∧ x ≤ 4611686018427387904 := fun x hx => hq.1 x (hp.mem_iff.1 hx)
      have h1 : xs' = (xs'.map Int.toNat).map fun (n : Nat) => (n : Int) := by
        rw [List.map_map]
        conv => lhs; rw [← List.map_id xs']
        apply List.map_congr_left
        intro x hx
        have := hnn x hx
        simp only [id, Function.comp]
        omega
      have h2 : M.Fall (xs'.map Int.toNat) := by
        unfold M.Fall
        rw [List.pairwise_map]
        refine hs.imp_of_mem ?_
        intro a b ha hb hab
        have := hnn a ha
        have := hnn b hb
        have hab' : ¬ wrap64 (a - b) < 0 := hab
        unfold wrap64 at hab'
        clear hab
        omega
      have h3 : xs'.map Int.toNat = M.sortD (l0.map Int.toNat) := M.fall_uniq h2 (M.sortD_fall _) ((hp.map _).trans (M.sortD_perm _).symm)
      rw [← h3]
      exact h1
    rw [← hx]
    exact ⟨rfl, Kd.R_mono hR (fun _ hk => .inl hk), hB.trans hB2, ⟨hK.1, fun i hi hn => hK.2 i hi (fun e_ => hn (ho0.1 i e_.symm))⟩⟩
  · cases h
end Go.Proofs.Ytcggfjpnfodbaaa.A
end
