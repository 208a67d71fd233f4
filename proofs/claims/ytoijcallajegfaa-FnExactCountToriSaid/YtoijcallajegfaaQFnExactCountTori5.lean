/- Lemmas for the row FnExactCountTori: the program's functions told as plain functions, and plain mathematics. No conditions. -/
import Derived.Test.YtoijcallajegfaaQFnExactCountTori4
section
namespace Go.Proofs.Ytoijcallajegfaa.A
open Go.RowKit Go.Proofs.YtoijcallajegfaaW.PrintWords Go.Proofs.YtoijcallajegfaaW.PrintLast Go.Proofs.YtoijcallajegfaaW.PrintMore
attribute [local go_sem] max2_int min2_int max_two min_two max_three min_three max_four min_four
set_option linter.unusedVariables false
set_option linter.unusedSimpArgs false
def spec_StratumOf.l0 : Nat → List Int → List Int → Int → Int → Option (List Int)
  | 0, _, _, _, _ => none
  | k + 1, x3, x8, x9, x10 => if x10 < x9 then (if 0 ≤ x10 then (if x10 < (x8.length : Int) then (if (rd x8 x10) > 1 then (if x3.length < 17592186044416 then (spec_StratumOf.l0 k (x3 ++ [wrap64 ((rd x8 x10) - 1)]) x8 x9 (wrap64 (x10 + 1))) else (none)) else (spec_StratumOf.l0 k x3 x8 x9 (wrap64 (x10 + 1)))) else (none)) else (none)) else (some x3)
def spec_StratumOf.f (k : Nat) (l0_0 : List Int) (l0_1 : List Int) : Option (List Int) := (spec_AnglesOf.f k l0_0 l0_1).bind fun t1327 => (spec_StratumOf.l0 k (([] : List Int)) t1327 (t1327.length : Int) 0)
theorem spec_StratumOf.mono_l : ∀ k, (∀ y0 y1 y2 y3, LeO (spec_StratumOf.l0 k y0 y1 y2 y3) (spec_StratumOf.l0 (k + 1) y0 y1 y2 y3))
  | 0 => fun _ _ _ _ r h => by simp [spec_StratumOf.l0] at h
  | k + 1 => by
    have ih0 := spec_StratumOf.mono_l k
    · intro y0 y1 y2 y3
      unfold spec_StratumOf.l0
      repeat' first|exact ih0 _ _ _ _|exact spec_AnglesOf.mono _ _ _|exact lo_|refine LeO.ite ?_ ?_|refine LeO.bind ?_ (fun _ => ?_)
theorem spec_StratumOf.mono : ∀ a0 a1 k, LeO (spec_StratumOf.f k a0 a1) (spec_StratumOf.f (k + 1) a0 a1) := by
  intro a0 a1 k
  have ih0 := spec_StratumOf.mono_l k
  unfold spec_StratumOf.f
  repeat' first|exact ih0 _ _ _ _|exact spec_AnglesOf.mono _ _ _|exact lo_|refine LeO.ite ?_ ?_|refine LeO.bind ?_ (fun _ => ?_)
set_option maxHeartbeats 8000000 in
set_option maxRecDepth 100000 in
theorem spec_StratumOf.calls (k : Nat) (A0_0 : Option Addr) (c0_0 : Nat) (l0_0 : List Int) (A0_1 : Option Addr) (c0_1 : Nat) (l0_1 : List Int) (r : List Int) (w : World) (hr0_0 : Kd.C (Kd.int .i64) w A0_0 l0_0.length l0_0) (hc0_0 : l0_0.length ≤ c0_0) (hr0_1 : Kd.C (Kd.int .i64) w A0_1 l0_1.length l0_1) (hc0_1 : l0_1.length ≤ c0_1) (h : spec_StratumOf.f k l0_0 l0_1 = some r) :
    Calls Try.prog 135 #[.agg #[.slice A0_0 l0_0.length c0_0, .slice A0_1 l0_1.length c0_1]] w fun e w' => ∃ v0_ : Value, e = .returned (v0_) ∧ Kd.R (Kd.int .i64) 3 w' w.heap.size (fun _ => True) v0_ r ∧ Below w.heap.size w w' := by
  have hu33 := Try.underlying33
  have HR0_0 := Aside0.mk hr0_0
  have HC0_0 := Aside0.mk hc0_0
  clear hr0_0 hc0_0
  have HR0_1 := Aside0.mk hr0_1
  have HC0_1 := Aside0.mk hc0_1
  clear hr0_1 hc0_1
  have HB := Aside0.mk (Below.refl w.heap.size w)
  have H := h
  unfold spec_StratumOf.f at H
  clear h
  obtain ⟨y1324, hy1324⟩ : ∃ y_ : List Int, y_ = (([] : List Int)) := ⟨_, rfl⟩
  replace H : ((spec_AnglesOf.f k l0_0 l0_1).bind fun t1327 => (spec_StratumOf.l0 k y1324 t1327 (t1327.length : Int) 0)) = some r := by first | (rw [hy1324]; exact H) | exact H
  have Ny1324 := Aside0.mk hy1324
  clear hy1324
  obtain ⟨t1327, A2, H⟩ := bi_ H
  have H' := Aside0.mk H
  clear H
  go_enter Try.func135, Try.ntmps135
  go_wp2_with (first | ((with_reducible refine gate_dst (N := 1) rfl ?_); refine bx_ 1 #[.slice A0_0 l0_0.length c0_0, .slice A0_1 l0_1.length c0_1] 33 ?_; intro gb1323 hg w3 hbox hb; have BK1323 := Aside0.mk hbox; have GW1323 := gw_ w hg; have GE1323 := GW1323; replace HB := b1_ hb; clear hb hbox hg) | ((with_reducible refine gate_dst (N := 6) rfl ?_); refine Kd.R_lit (Kd.int .i64) _ 3 ?hg (N := 6) ?hd (xs := ([] : List Int)) (inner := []) (ok := fun _ => True) (okp := fun _ => True) ?hr ?hp (fun _ hk => hk) trivial (Below.refl _ _) (Nat.le_refl _) (by simp) ?_; (case hd => rfl); (case hg => rfl); (case hr => first | (go_simp; done) | (go_simp; rfl)); (case hp => exact (Reps.none _ _)); intro v1325 w4 ho5 hb hg_ hnew_; clear hg_ hnew_; (first | rw [← Ny1324.out] at ho5 | (simp only [Int.reduceToNat] at ho5; rw [← Ny1324.out] at ho5)); have HO1326 := rl_ w ho5; replace BK1323 := bb_ BK1323 hb; replace HB := b1_ hb; clear hb ho5; obtain ⟨hcz6_0, hcz6_1, hfz6_0, hfz6_1⟩ := c2_ BK1323) | ((with_reducible refine gate_callee (f := 166) rfl ?_); refine gL_ (some 8) Try.func166 #[.agg #[.slice A0_0 l0_0.length c0_0, .slice A0_1 l0_1.length c0_1]] rfl qa_ ?_; (with_reducible refine (spec_AnglesOf.calls k _ _ l0_0 _ _ l0_1 t1327 _ (cb_ HR0_0) HC0_0.out (cb_ HR0_1) HC0_1.out A2.out).mono ?_); rintro e w7 ⟨v1328, rfl, ho0, hb⟩; refine ⟨_, rfl, ?_⟩; have HO1329 := Aside0.mk (Kd.R_lower (Kd.R_new' ho0 (Kd.R_lt (rr_ HO1326))) (below_size hB_)); replace HO1326 := Aside0.mk (Kd.R_elder' (rr_ HO1326) (Kd.R_base ho0) hb); replace BK1323 := bb_ BK1323 hb; replace HB := b1_ hb; clear hb ho0; obtain ⟨Ao8, co8, eo8⟩ := Kd.R_slice HO1329.out; subst eo8))
  go_loopg [3, 10] k (fun kq v3 v10 w' => ∃ (x3_1 : List Int) (x10_1 : Int), v10 = .int .i64 x10_1 ∧ Aside0 (spec_StratumOf.l0 kq x3_1 t1327 (t1327.length : Int) x10_1 = some r) ∧ Aside0 (kq ≤ k) ∧ Aside0 (Kd.R (Kd.int .i64) 3 w' w.heap.size (fun k_ => some k_ ≠ ((.slice Ao8 t1327.length co8) : Value).ownBlock) v3 x3_1) ∧ Aside0 (Kd.R (Kd.int .i64) 3 w' w.heap.size (fun k_ => some k_ ≠ (v3 : Value).ownBlock) (.slice Ao8 t1327.length co8) t1327) ∧ Aside0 (w'.heap[gb1323]? = some (.cells #[(.slice A0_0 l0_0.length c0_0), (.slice A0_1 l0_1.length c0_1)] 33 (0, 0))) ∧ Aside0 (Below w.heap.size w w'))
  case atStart => exact ⟨(y1324), (0), qc_, H', ⟨Nat.le_refl _⟩, ⟨(rw_ (Kd.R_mono HO1326.out (fun _ hk => hk.2)))⟩, ⟨(rw_ (Kd.R_mono HO1329.out (fun _ hk => hk.2)))⟩, ⟨(kk_ BK1323)⟩, ⟨hB_⟩⟩
  case round =>
    clear H'
    obtain ⟨x3_1, x10_1, rfl, HA, HK1, HO_3, HO_8, BK1323, HB⟩ := hrel
    cases gk with
    | zero => exact absurd HA.out (by simp [spec_StratumOf.l0])
    | succ k1 =>
      have H := HA.out
      clear HA
      simp only [spec_StratumOf.l0] at H
      by_cases c9 : x10_1 < (t1327.length : Int)
      · rw [if_pos c9] at H
        have c9b0 := decide_eq_true c9
        clear c9
        have c10 := cp_ H
        replace H := ca_ H
        have c10b0 := decide_eq_true c10
        clear c10
        have c11 := cp_ H
        replace H := ca_ H
        have c11b0 := decide_eq_true c11
        clear c11
        by_cases c12 : (rd t1327 x10_1) > 1
        · rw [if_pos c12] at H
          have c12b0 : decide (1 < (rd t1327 x10_1)) = true := decide_eq_true c12
          clear c12
          have c13 := cp_ H
          replace H := ca_ H
          have LMc13 := Aside0.mk c13
          clear c13
          obtain ⟨y1331, hy1331⟩ : ∃ y_ : List Int, y_ = (x3_1 ++ [wrap64 ((rd t1327 x10_1) - 1)]) := ⟨_, rfl⟩
          replace H : (spec_StratumOf.l0 k1 y1331 t1327 (t1327.length : Int) (wrap64 (x10_1 + 1))) = some r := by first | (rw [hy1331]; exact H) | exact H
          have Ny1331 := Aside0.mk hy1331
          clear hy1331
          have H' := Aside0.mk H
          clear H
          have p1330 : 0 ≤ (x10_1 : Int) := of_decide_eq_true qe_
          have q1330 : x10_1 < (t1327.length : Int) := of_decide_eq_true qe_
          obtain ⟨ad1330, e1330, hx1330_0⟩ := Kd.at_int (Kd.R_reads' HO_8.out).2.2 x10_1 p1330 q1330
          cases e1330
          replace p1330 := eq_true p1330
          replace q1330 := eq_true q1330
          go_wp2_with (first | ((with_reducible refine gate_builtin (b := .append) (xs := #[.tmp 16, .tmp 19]) rfl ?_); at_builtin; refine Kd.R_append (Kd.int .i64) (w0 := w) w.heap.size rfl (.tmp 16) (.tmp 19) 23 3 (.int .i64 0) 8 rfl Try.underlying23 info3 rfl (by decide) (by omega) u3 x3_1 (wrap64 ((rd t1327 x10_1) - 1)) [.int .i64 (wrap64 ((rd t1327 x10_1) - 1))] (fun k_ => some k_ ≠ (.slice (some ad1330) t1327.length co8 : Value).ownBlock) (fun _ => False) rfl rfl ?aP (fun _ hk => hk.elim) ?aF ?aO ?aB ?aS ?aL ?_; (case aP => exact rfl); (case aB => exact hB_); (case aF => exact (fun k_ hk => Kd.fresh' (Kd.R_lt (rr_ HO_8)) k_ hk)); (case aO => exact (rr_ HO_3)); (case aS => exact (below_size hB_)); (case aL => have := LMc13.out; omega); intro v1332 w14 ho hb hg hat; rw [← Ny1331.out] at ho; replace HO_8 := Aside0.mk (Kd.R_after (ok := (fun _ => True)) (rw_ (Kd.R_mono HO_8.out (fun _ hk => ⟨trivial, hk⟩))) hg hat); replace BK1323 := Aside0.mk (blk_grown (kk_ BK1323) hg (Kd.R_ne HO_3.out BK1323.out (by decide))); replace HB := Aside0.mk hb; have HO1333 := Aside0.mk ho; clear HO_3; clear ho hb hg hat))
          go_roundg k1
          case measure => have := HK1.out; omega
          case rel => exact ⟨(y1331), (wrap64 (x10_1 + 1)), qc_, H', ⟨by have := HK1.out; omega⟩, ⟨(rr_ HO1333)⟩, ⟨(rw_ (Kd.R_mono HO_8.out (fun _ hk => hk.2)))⟩, ⟨(kk_ BK1323)⟩, ⟨hB_⟩⟩
        · rw [if_neg c12] at H
          have c12b0 : decide (1 < (rd t1327 x10_1)) = false := decide_eq_false c12
          clear c12
          have H' := Aside0.mk H
          clear H
          have p1330 : 0 ≤ (x10_1 : Int) := of_decide_eq_true qe_
          have q1330 : x10_1 < (t1327.length : Int) := of_decide_eq_true qe_
          obtain ⟨ad1330, e1330, hx1330_0⟩ := Kd.at_int (Kd.R_reads' HO_8.out).2.2 x10_1 p1330 q1330
          cases e1330
          replace p1330 := eq_true p1330
          replace q1330 := eq_true q1330
          go_wp2
          go_roundg k1
          case measure => have := HK1.out; omega
          case rel => exact ⟨(x3_1), (wrap64 (x10_1 + 1)), qc_, H', ⟨by have := HK1.out; omega⟩, ⟨(rr_ HO_3)⟩, ⟨(rr_ HO_8)⟩, ⟨(kk_ BK1323)⟩, ⟨hB_⟩⟩
      · rw [if_neg c9] at H
        have c9b0 := decide_eq_false c9
        clear c9
        obtain rfl := Option.some.inj H
        go_wp2
        go_ret
        exact ⟨_, qb_, (rw_ (Kd.R_mono HO_3.out (fun _ hk => trivial))), hB_⟩
end Go.Proofs.Ytoijcallajegfaa.A
end
section
namespace Go.Proofs.Ytoijcallajegfaa.A
open Go.RowKit Go.Proofs.YtoijcallajegfaaW.PrintWords Go.Proofs.YtoijcallajegfaaW.PrintLast Go.Proofs.YtoijcallajegfaaW.PrintMore
attribute [local go_sem] max2_int min2_int max_two min_two max_three min_three max_four min_four
set_option linter.unusedVariables false
set_option linter.unusedSimpArgs false
def spec_SurfacesIn.l0 : Nat → List Int → List (S33) → List (S33) → Int → Int → Option ((List (S33)))
  | 0, _, _, _, _, _ => none
  | k + 1, x1, x5, x10, x11, x12 => if x12 < x11 then (if 0 ≤ x12 then (if x12 < (x10.length : Int) then ((spec_StratumOf.f k ((rd_T33 x10 x12).f0) ((rd_T33 x10 x12).f1)).bind fun t1342 => ((spec_SameList.f k t1342 x1).bind fun t1345 => (if t1345 = true then (if x5.length < 2932031007402 then (spec_SurfacesIn.l0 k x1 (x5 ++ [(⟨(rd_T33 x10 x12).f0, (rd_T33 x10 x12).f1⟩ : S33)]) x10 x11 (wrap64 (x12 + 1))) else (none)) else (spec_SurfacesIn.l0 k x1 x5 x10 x11 (wrap64 (x12 + 1)))))) else (none)) else (none)) else (some x5)
def spec_SurfacesIn.f (k : Nat) (a0 : Int) (l1 : List Int) : Option ((List (S33))) := (spec_SurfacesWith.f k a0).bind fun t1337 => (spec_SurfacesIn.l0 k l1 (([] : List (S33))) t1337 (t1337.length : Int) 0)
theorem spec_SurfacesIn.mono_l : ∀ k, (∀ y0 y1 y2 y3 y4, LeO (spec_SurfacesIn.l0 k y0 y1 y2 y3 y4) (spec_SurfacesIn.l0 (k + 1) y0 y1 y2 y3 y4))
  | 0 => fun _ _ _ _ _ r h => by simp [spec_SurfacesIn.l0] at h
  | k + 1 => by
    have ih0 := spec_SurfacesIn.mono_l k
    · intro y0 y1 y2 y3 y4
      unfold spec_SurfacesIn.l0
      repeat' first|exact ih0 _ _ _ _ _|exact spec_SameList.mono _ _ _|exact spec_StratumOf.mono _ _ _|exact spec_SurfacesWith.mono _ _|exact lo_|refine LeO.ite ?_ ?_|refine LeO.bind ?_ (fun _ => ?_)
theorem spec_SurfacesIn.mono : ∀ a0 a1 k, LeO (spec_SurfacesIn.f k a0 a1) (spec_SurfacesIn.f (k + 1) a0 a1) := by
  intro a0 a1 k
  have ih0 := spec_SurfacesIn.mono_l k
  unfold spec_SurfacesIn.f
  repeat' first|exact ih0 _ _ _ _ _|exact spec_SameList.mono _ _ _|exact spec_StratumOf.mono _ _ _|exact spec_SurfacesWith.mono _ _|exact lo_|refine LeO.ite ?_ ?_|refine LeO.bind ?_ (fun _ => ?_)
set_option maxHeartbeats 8000000 in
set_option maxRecDepth 100000 in
theorem spec_SurfacesIn.calls (k : Nat) (a0 : Int) (A1 : Option Addr) (c1 : Nat) (l1 : List Int) (r : List (S33)) (w : World) (hr1 : Kd.C (Kd.int .i64) w A1 l1.length l1) (hc1 : l1.length ≤ c1) (h : spec_SurfacesIn.f k a0 l1 = some r) :
    Calls Try.prog 96 #[.int .i64 a0, .slice A1 l1.length c1] w fun e w' => ∃ v0_ : Value, e = .returned (v0_) ∧ Kd.N k33 33 w' w.heap.size (fun k_ => (w.heap.size ≤ k_)) v0_ r ∧ Below w.heap.size w w' := by
  have hu33 := Try.underlying33
  have HR1 := Aside0.mk hr1
  have HC1 := Aside0.mk hc1
  clear hr1 hc1
  have HB := Aside0.mk (Below.refl w.heap.size w)
  have H := h
  unfold spec_SurfacesIn.f at H
  clear h
  obtain ⟨y1334, hy1334⟩ : ∃ y_ : List (S33), y_ = (([] : List (S33))) := ⟨_, rfl⟩
  replace H : ((spec_SurfacesWith.f k a0).bind fun t1337 => (spec_SurfacesIn.l0 k l1 y1334 t1337 (t1337.length : Int) 0)) = some r := by first | (rw [hy1334]; exact H) | exact H
  have Ny1334 := Aside0.mk hy1334
  clear hy1334
  obtain ⟨t1337, A3, H⟩ := bi_ H
  have H' := Aside0.mk H
  clear H
  go_enter Try.func96, Try.ntmps96
  go_wp2_with (first | ((with_reducible refine gate_dst (N := 8) rfl ?_); refine Kd.N_lit k33 _ 33 ?hg (N' := 8) ?hd (xs := ([] : List (S33))) (inner := []) (ok := (fun k_ => (w.heap.size ≤ k_))) (okp := (fun k_ => (w.heap.size ≤ k_))) ?hr ?hp (fun _ hk => hk) ((show ∀ k_, w.heap.size ≤ k_ → (fun k_ => (w.heap.size ≤ k_)) k_ from fun k_ hk => (Nat.le_trans (below_size hB_) hk)) _ (Nat.le_refl _)) (Below.refl _ _) (Nat.le_refl _) (by simp) ?_; (case hd => rfl); (case hg => rfl); (case hr => first | (go_simp; done) | (go_simp; rfl)); (case hp => exact (Reps.none _ _)); intro v1335 w4 ho5 hb hg_ hnew_; clear hg_ hnew_; (first | rw [← Ny1334.out] at ho5 | (simp only [Int.reduceToNat] at ho5; rw [← Ny1334.out] at ho5)); have HO1336 := Aside0.mk (Kd.N_lower ho5 (below_size hB_)); replace HB := b1_ hb; clear hb ho5) | ((with_reducible refine gate_callee (f := 37) rfl ?_); refine gL_ (some 10) Try.func37 #[.int .i64 a0] rfl qa_ ?_; (with_reducible refine (spec_SurfacesWith.calls k a0 t1337 _ A3.out).mono ?_); rintro e w6 ⟨v1338, rfl, ho0, hb⟩; refine ⟨_, rfl, ?_⟩; have HO1339 := Aside0.mk (Kd.N_lower (Kd.N_mono (ok' := fun k_ => (w.heap.size ≤ k_) ∧ some k_ ≠ (v1335 : Value).ownBlock) ho0 (fun k_ hk_ => ⟨(Nat.le_trans (below_size hB_) hk_), (Kd.fresh' (Kd.N_lt (by (with_reducible repeat (first | apply Kd.N_alloc | apply Kd.N_drewN | apply Kd.N_drew)); exact HO1336.out)) k_ hk_)⟩)) (below_size hB_)); replace HO1336 := Aside0.mk (Kd.N_elder' (by (with_reducible repeat (first | apply Kd.N_alloc | apply Kd.N_drewN | apply Kd.N_drew)); exact HO1336.out) (Kd.N_base ho0) hb); replace HB := b1_ hb; clear hb ho0; obtain ⟨Ao7, co7, eo7⟩ := Kd.N_slice HO1339.out; subst eo7))
  go_loopg [5, 12] k (fun kq v5 v12 w' => ∃ (x5_1 : List (S33)) (x12_1 : Int), v12 = .int .i64 x12_1 ∧ Aside0 (spec_SurfacesIn.l0 kq l1 x5_1 t1337 (t1337.length : Int) x12_1 = some r) ∧ Aside0 (kq ≤ k) ∧ Aside0 (Kd.N k33 33 w' w.heap.size (fun k_ => (w.heap.size ≤ k_) ∧ some k_ ≠ ((.slice Ao7 t1337.length co7) : Value).ownBlock) v5 x5_1) ∧ Aside0 (Kd.N k33 33 w' w.heap.size (fun k_ => (w.heap.size ≤ k_) ∧ some k_ ≠ (v5 : Value).ownBlock) (.slice Ao7 t1337.length co7) t1337) ∧ Aside0 (Below w.heap.size w w'))
  case atStart => exact ⟨(y1334), (0), qc_, H', ⟨Nat.le_refl _⟩, ⟨by (with_reducible repeat (first | apply Kd.N_alloc | apply Kd.N_drewN | apply Kd.N_drew)); exact HO1336.out⟩, ⟨by (with_reducible repeat (first | apply Kd.N_alloc | apply Kd.N_drewN | apply Kd.N_drew)); exact HO1339.out⟩, ⟨hB_⟩⟩
  case round =>
    clear H'
    obtain ⟨x5_1, x12_1, rfl, HA, HK1, HO_5, HO_10, HB⟩ := hrel
    cases gk with
    | zero => exact absurd HA.out (by simp [spec_SurfacesIn.l0])
    | succ k1 =>
      have H := HA.out
      clear HA
      simp only [spec_SurfacesIn.l0] at H
      by_cases c8 : x12_1 < (t1337.length : Int)
      · rw [if_pos c8] at H
        have c8b0 := decide_eq_true c8
        clear c8
        have c9 := cp_ H
        replace H := ca_ H
        have c9b0 := decide_eq_true c9
        clear c9
        have c10 := cp_ H
        replace H := ca_ H
        have c10b0 := decide_eq_true c10
        clear c10
        obtain ⟨t1342, A11, H⟩ := bi_ H
        obtain ⟨t1345, A12, H⟩ := bi_ H
        by_cases c13 : t1345 = true
        · subst c13
          rw [if_pos rfl] at H
          have c14 := cp_ H
          replace H := ca_ H
          have LMc14 := Aside0.mk c14
          clear c14
          obtain ⟨y1346, hy1346⟩ : ∃ y_ : List (S33), y_ = (x5_1 ++ [(⟨(rd_T33 t1337 x12_1).f0, (rd_T33 t1337 x12_1).f1⟩ : S33)]) := ⟨_, rfl⟩
          replace H : (spec_SurfacesIn.l0 k1 l1 y1346 t1337 (t1337.length : Int) (wrap64 (x12_1 + 1))) = some r := by first | (rw [hy1346]; exact H) | exact H
          have Ny1346 := Aside0.mk hy1346
          clear hy1346
          have H' := Aside0.mk H
          clear H
          have p1340 : 0 ≤ (x12_1 : Int) := of_decide_eq_true qe_
          have q1340 : x12_1 < (t1337.length : Int) := of_decide_eq_true qe_
          obtain ⟨ad1340, A1340_0, c1340_0, A1340_1, c1340_1, e1340, hx1340_0, hx1340_1, hl1340_0, hi1340_0, hl1340_1, hi1340_1⟩ := at_T33 (Kd.N_reads' HO_10.out).2.2 x12_1 p1340 q1340
          cases e1340
          obtain ⟨ce1340, hce1340, hMe1340, hcc1340⟩ := Kd.N_get HO_10.out z33 x12_1 p1340 (by first | exact q1340 | exact of_decide_eq_true qe_ | (have e_ := (Kd.N_reads' HO_10.out).1; omega))
          obtain ⟨ua1340_0, uc1340_0, ua1340_1, uc1340_1, rfl, ul1340_0, ge1340_0, ul1340_1, ge1340_1⟩ := k33_openF hMe1340
          have hv1340_0 := hcc1340 0 _ rfl
          rw [Nat.add_zero] at hv1340_0
          replace hv1340_0 := Option.some.inj (hv1340_0.symm.trans hx1340_0)
          injection hv1340_0 with hva_ hvn_ hvc_
          rw [hva_] at ge1340_0
          rw [hvc_] at ul1340_0
          have HL1340_0 := Aside0.mk (show Kd.V (Kd.int .i64) 3 _ w.heap.size _ _ ((rd_T33 t1337 x12_1).f0) from Kd.V_mk ul1340_0 ge1340_0)
          clear hva_ hvn_ hvc_ ge1340_0 ul1340_0
          have hv1340_1 := hcc1340 1 _ rfl
          rw [add_field _ _ 1 (by omega)] at hv1340_1
          replace hv1340_1 := Option.some.inj (hv1340_1.symm.trans hx1340_1)
          injection hv1340_1 with hva_ hvn_ hvc_
          rw [hva_] at ge1340_1
          rw [hvc_] at ul1340_1
          have HL1340_1 := Aside0.mk (show Kd.V (Kd.int .i64) 3 _ w.heap.size _ _ ((rd_T33 t1337 x12_1).f1) from Kd.V_mk ul1340_1 ge1340_1)
          clear hva_ hvn_ hvc_ ge1340_1 ul1340_1
          clear hcc1340 hce1340
          have HR1340_0 := Aside0.mk hi1340_0
          have HC1340_0 := Aside0.mk hl1340_0
          clear hi1340_0 hl1340_0
          have HR1340_1 := Aside0.mk hi1340_1
          have HC1340_1 := Aside0.mk hl1340_1
          clear hi1340_1 hl1340_1
          replace p1340 := eq_true p1340
          replace q1340 := eq_true q1340
          go_wp2_with (first | ((with_reducible refine gate_dst (N := 7) rfl ?_); refine bx_ 7 #[.slice none 0 0, .slice none 0 0] 33 ?_; intro gb1341 hg w15 hbox hb; replace HO_5 := Aside0.mk (Kd.N_below (Kd.N_elderB (by (with_reducible repeat (first | apply Kd.N_alloc | apply Kd.N_drewN | apply Kd.N_drew)); exact HO_5.out) gb1341 (Nat.le_of_eq hg.symm)) hb); replace HO_10 := Aside0.mk (Kd.N_below (Kd.N_elderB (by (with_reducible repeat (first | apply Kd.N_alloc | apply Kd.N_drewN | apply Kd.N_drew)); exact HO_10.out) gb1341 (Nat.le_of_eq hg.symm)) hb); replace HL1340_0 := Aside0.mk (Kd.V_below (Kd.V_elderB (by (with_reducible repeat (first | apply Kd.V_alloc | apply Kd.V_drewN | apply Kd.V_drew)); exact HL1340_0.out) gb1341 (Nat.le_of_eq hg.symm)) hb); replace HL1340_1 := Aside0.mk (Kd.V_below (Kd.V_elderB (by (with_reducible repeat (first | apply Kd.V_alloc | apply Kd.V_drewN | apply Kd.V_drew)); exact HL1340_1.out) gb1341 (Nat.le_of_eq hg.symm)) hb); replace HR1340_0 := Aside0.mk (Kd.C_below (by repeat (first | (with_reducible exact HR1340_0.out) | (with_reducible refine Kd.C_alloc ?_ _) | (with_reducible refine Kd.C_drewN ?_ _) | (with_reducible refine Kd.C_drew ?_) | exact HR1340_0.out)) hb); replace HR1340_1 := Aside0.mk (Kd.C_below (by repeat (first | (with_reducible exact HR1340_1.out) | (with_reducible refine Kd.C_alloc ?_ _) | (with_reducible refine Kd.C_drewN ?_ _) | (with_reducible refine Kd.C_drew ?_) | exact HR1340_1.out)) hb); have BK1341 := Aside0.mk hbox; have GW1341 := gw_ w hg; have GE1341 := GW1341; replace HB := b1_ hb; clear hb hbox hg; obtain ⟨hcz16_0, hcz16_1, hfz16_0, hfz16_1⟩ := c2_ BK1341) | ((with_reducible refine gate_callee (f := 135) rfl ?_); refine gL_ (some 17) Try.func135 #[.agg #[.slice A1340_0 ((rd_T33 t1337 x12_1).f0).length c1340_0, .slice A1340_1 ((rd_T33 t1337 x12_1).f1).length c1340_1]] rfl qa_ ?_; (with_reducible refine (spec_StratumOf.calls k1 _ _ ((rd_T33 t1337 x12_1).f0) _ _ ((rd_T33 t1337 x12_1).f1) t1342 _ ?side1 ?side2 ?side3 ?side4 A11.out).mono ?_); (case side1 => repeat (first | exact ((Kd.V_reads' (by (with_reducible repeat (first | apply Kd.V_alloc | apply Kd.V_drewN | apply Kd.V_drew)); exact (Kd.V_mono (Kd.V_far (p := ⟨gb1341, 1, none⟩) (Kd.V_far (p := ⟨gb1341, 0, none⟩) (Kd.V_mono HL1340_0.out (fun k_ hk => (⟨hk, hk.2⟩ : _ ∧ k_ ≠ gb1341))) (fun _ hk => hk.2) (.slice A1340_0 ((rd_T33 t1337 x12_1).f0).length c1340_0)) (fun _ hk => hk.2) (.slice A1340_1 ((rd_T33 t1337 x12_1).f1).length c1340_1)) (fun _ h_ => h_.1)))).2.2) | (with_reducible refine Kd.C_alloc ?_ _) | (with_reducible refine Kd.C_drewN ?_ _) | (with_reducible refine Kd.C_drew ?_))); (case side2 => exact HC1340_0.out); (case side3 => repeat (first | exact ((Kd.V_reads' (by (with_reducible repeat (first | apply Kd.V_alloc | apply Kd.V_drewN | apply Kd.V_drew)); exact (Kd.V_mono (Kd.V_far (p := ⟨gb1341, 1, none⟩) (Kd.V_far (p := ⟨gb1341, 0, none⟩) (Kd.V_mono HL1340_1.out (fun k_ hk => (⟨hk, hk.2⟩ : _ ∧ k_ ≠ gb1341))) (fun _ hk => hk.2) (.slice A1340_0 ((rd_T33 t1337 x12_1).f0).length c1340_0)) (fun _ hk => hk.2) (.slice A1340_1 ((rd_T33 t1337 x12_1).f1).length c1340_1)) (fun _ h_ => h_.1)))).2.2) | (with_reducible refine Kd.C_alloc ?_ _) | (with_reducible refine Kd.C_drewN ?_ _) | (with_reducible refine Kd.C_drew ?_))); (case side4 => exact HC1340_1.out); rintro e w17 ⟨v1343, rfl, ho0, hb⟩; refine ⟨_, rfl, ?_⟩; replace HO_5 := Aside0.mk (Kd.N_elder' (by (with_reducible repeat (first | apply Kd.N_alloc | apply Kd.N_drewN | apply Kd.N_drew)); exact (Kd.N_mono (Kd.N_far (p := ⟨gb1341, 1, none⟩) (Kd.N_far (p := ⟨gb1341, 0, none⟩) (Kd.N_mono HO_5.out (fun k_ hk => (⟨hk, hk.2⟩ : _ ∧ k_ ≠ gb1341))) (fun _ hk => hk.2) (.slice A1340_0 ((rd_T33 t1337 x12_1).f0).length c1340_0)) (fun _ hk => hk.2) (.slice A1340_1 ((rd_T33 t1337 x12_1).f1).length c1340_1)) (fun _ h_ => h_.1))) (Kd.R_base ho0) hb); replace HO_10 := Aside0.mk (Kd.N_elder' (by (with_reducible repeat (first | apply Kd.N_alloc | apply Kd.N_drewN | apply Kd.N_drew)); exact (Kd.N_mono (Kd.N_far (p := ⟨gb1341, 1, none⟩) (Kd.N_far (p := ⟨gb1341, 0, none⟩) (Kd.N_mono HO_10.out (fun k_ hk => (⟨hk, hk.2⟩ : _ ∧ k_ ≠ gb1341))) (fun _ hk => hk.2) (.slice A1340_0 ((rd_T33 t1337 x12_1).f0).length c1340_0)) (fun _ hk => hk.2) (.slice A1340_1 ((rd_T33 t1337 x12_1).f1).length c1340_1)) (fun _ h_ => h_.1))) (Kd.R_base ho0) hb); have HO1344 := Aside0.mk (Kd.R_lower (Kd.R_newM (M := fun k_ => (w.heap.size ≤ k_)) ho0 (below_size hB_) (fun k_ h_ => h_)) (below_size hB_)); replace HR1340_0 := Aside0.mk (Kd.C_below ((Kd.V_reads' (by (with_reducible repeat (first | apply Kd.V_alloc | apply Kd.V_drewN | apply Kd.V_drew)); exact (Kd.V_mono (Kd.V_far (p := ⟨gb1341, 1, none⟩) (Kd.V_far (p := ⟨gb1341, 0, none⟩) (Kd.V_mono HL1340_0.out (fun k_ hk => (⟨hk, hk.2⟩ : _ ∧ k_ ≠ gb1341))) (fun _ hk => hk.2) (.slice A1340_0 ((rd_T33 t1337 x12_1).f0).length c1340_0)) (fun _ hk => hk.2) (.slice A1340_1 ((rd_T33 t1337 x12_1).f1).length c1340_1)) (fun _ h_ => h_.1)))).2.2) hb); replace HL1340_0 := Aside0.mk (Kd.V_elder' (by (with_reducible repeat (first | apply Kd.V_alloc | apply Kd.V_drewN | apply Kd.V_drew)); exact (Kd.V_mono (Kd.V_far (p := ⟨gb1341, 1, none⟩) (Kd.V_far (p := ⟨gb1341, 0, none⟩) (Kd.V_mono HL1340_0.out (fun k_ hk => (⟨hk, hk.2⟩ : _ ∧ k_ ≠ gb1341))) (fun _ hk => hk.2) (.slice A1340_0 ((rd_T33 t1337 x12_1).f0).length c1340_0)) (fun _ hk => hk.2) (.slice A1340_1 ((rd_T33 t1337 x12_1).f1).length c1340_1)) (fun _ h_ => h_.1))) (Kd.R_base ho0) hb); replace HR1340_1 := Aside0.mk (Kd.C_below ((Kd.V_reads' (by (with_reducible repeat (first | apply Kd.V_alloc | apply Kd.V_drewN | apply Kd.V_drew)); exact (Kd.V_mono (Kd.V_far (p := ⟨gb1341, 1, none⟩) (Kd.V_far (p := ⟨gb1341, 0, none⟩) (Kd.V_mono HL1340_1.out (fun k_ hk => (⟨hk, hk.2⟩ : _ ∧ k_ ≠ gb1341))) (fun _ hk => hk.2) (.slice A1340_0 ((rd_T33 t1337 x12_1).f0).length c1340_0)) (fun _ hk => hk.2) (.slice A1340_1 ((rd_T33 t1337 x12_1).f1).length c1340_1)) (fun _ h_ => h_.1)))).2.2) hb); replace HL1340_1 := Aside0.mk (Kd.V_elder' (by (with_reducible repeat (first | apply Kd.V_alloc | apply Kd.V_drewN | apply Kd.V_drew)); exact (Kd.V_mono (Kd.V_far (p := ⟨gb1341, 1, none⟩) (Kd.V_far (p := ⟨gb1341, 0, none⟩) (Kd.V_mono HL1340_1.out (fun k_ hk => (⟨hk, hk.2⟩ : _ ∧ k_ ≠ gb1341))) (fun _ hk => hk.2) (.slice A1340_0 ((rd_T33 t1337 x12_1).f0).length c1340_0)) (fun _ hk => hk.2) (.slice A1340_1 ((rd_T33 t1337 x12_1).f1).length c1340_1)) (fun _ h_ => h_.1))) (Kd.R_base ho0) hb); replace BK1341 := Aside0.mk (blk_below (g := gb1341) (o := .cells #[.slice A1340_0 ((rd_T33 t1337 x12_1).f0).length c1340_0, .slice A1340_1 ((rd_T33 t1337 x12_1).f1).length c1340_1] 33 (0, 0)) qp_ hb); replace HB := b1_ hb; clear hb ho0; obtain ⟨Ao18, co18, eo18⟩ := Kd.R_slice HO1344.out; subst eo18) | ((with_reducible refine gate_callee (f := 134) rfl ?_); refine gL_ (some 19) Try.func134 #[.slice Ao18 t1342.length co18, .slice A1 l1.length c1] rfl qa_ ?_; (with_reducible refine (spec_SameList.calls k1 _ _ t1342 _ _ l1 true _ (cr_ HO1344) ((Kd.R_reads' HO1344.out).2.1) (cb_ HR1) HC1.out A12.out).mono ?_); rintro e w' ⟨rfl, ⟨nd, rfl⟩⟩; refine ⟨_, rfl, ?_⟩; have hcz19_0 : w17.cell? ⟨gb1341, 0, none⟩ = some (.slice A1340_0 ((rd_T33 t1337 x12_1).f0).length c1340_0) := cz0_ BK1341; have hcz19_1 : w17.cell? ⟨gb1341, 1, none⟩ = some (.slice A1340_1 ((rd_T33 t1337 x12_1).f1).length c1340_1) := cz1_ BK1341; have hfz19_0 := blk_frozen BK1341.out 0; have hfz19_1 := blk_frozen BK1341.out 1) | ((with_reducible refine gate_builtin (b := .append) (xs := #[.tmp 20, .tmp 22]) rfl ?_); at_builtin; refine Kd.N_append k33 (w0 := w) w.heap.size rfl (.tmp 20) (.tmp 22) 25 33 (.agg #[(.slice none 0 0), (.slice none 0 0)]) 48 rfl Try.underlying25 info33 rfl (by decide) (by omega) u5 x5_1 (⟨(rd_T33 t1337 x12_1).f0, (rd_T33 t1337 x12_1).f1⟩ : S33) [.slice A1340_0 ((rd_T33 t1337 x12_1).f0).length c1340_0, .slice A1340_1 ((rd_T33 t1337 x12_1).f1).length c1340_1] (fun k_ => (w.heap.size ≤ k_) ∧ some k_ ≠ (.slice (some ad1340) t1337.length co7 : Value).ownBlock ∧ some k_ ≠ (.slice Ao18 t1342.length co18 : Value).ownBlock ∧ k_ ≠ gb1341) (fun k_ => ((fun k_ => (w.heap.size ≤ k_) ∧ some k_ ≠ (.slice (some ad1340) t1337.length co7 : Value).ownBlock ∧ some k_ ≠ (.slice Ao18 t1342.length co18 : Value).ownBlock ∧ k_ ≠ gb1341)) k_ ∧ some k_ ≠ (u5 : Value).ownBlock) rfl rfl ?aP (fun _ hk => hk) ?aF ?aO ?aB ?aS ?aL ?_; (case aP => exact (k33_mkF _ _ (⟨(rd_T33 t1337 x12_1).f0, (rd_T33 t1337 x12_1).f1⟩ : S33) (Kd.V_reads' (Kd.V_mono (ok' := (fun k_ => ((fun k_ => (w.heap.size ≤ k_) ∧ some k_ ≠ (.slice (some ad1340) t1337.length co7 : Value).ownBlock ∧ some k_ ≠ (.slice Ao18 t1342.length co18 : Value).ownBlock ∧ k_ ≠ gb1341)) k_ ∧ some k_ ≠ (u5 : Value).ownBlock)) (HL1340_0.out) (fun k_ hk => ⟨⟨hk.1.1.1.1, ⟨hk.1.1.2, ⟨hk.2, hk.1.2⟩⟩⟩, hk.1.1.1.2⟩))).2.1 (Kd.V_F (Kd.V_mono (ok' := (fun k_ => ((fun k_ => (w.heap.size ≤ k_) ∧ some k_ ≠ (.slice (some ad1340) t1337.length co7 : Value).ownBlock ∧ some k_ ≠ (.slice Ao18 t1342.length co18 : Value).ownBlock ∧ k_ ≠ gb1341)) k_ ∧ some k_ ≠ (u5 : Value).ownBlock)) (HL1340_0.out) (fun k_ hk => ⟨⟨hk.1.1.1.1, ⟨hk.1.1.2, ⟨hk.2, hk.1.2⟩⟩⟩, hk.1.1.1.2⟩))) (Kd.V_reads' (Kd.V_mono (ok' := (fun k_ => ((fun k_ => (w.heap.size ≤ k_) ∧ some k_ ≠ (.slice (some ad1340) t1337.length co7 : Value).ownBlock ∧ some k_ ≠ (.slice Ao18 t1342.length co18 : Value).ownBlock ∧ k_ ≠ gb1341)) k_ ∧ some k_ ≠ (u5 : Value).ownBlock)) (HL1340_1.out) (fun k_ hk => ⟨⟨hk.1.1.1.1, ⟨hk.1.1.2, ⟨hk.2, hk.1.2⟩⟩⟩, hk.1.1.1.2⟩))).2.1 (Kd.V_F (Kd.V_mono (ok' := (fun k_ => ((fun k_ => (w.heap.size ≤ k_) ∧ some k_ ≠ (.slice (some ad1340) t1337.length co7 : Value).ownBlock ∧ some k_ ≠ (.slice Ao18 t1342.length co18 : Value).ownBlock ∧ k_ ≠ gb1341)) k_ ∧ some k_ ≠ (u5 : Value).ownBlock)) (HL1340_1.out) (fun k_ hk => ⟨⟨hk.1.1.1.1, ⟨hk.1.1.2, ⟨hk.2, hk.1.2⟩⟩⟩, hk.1.1.1.2⟩))))); (case aB => exact hB_); (case aF => exact (fun k_ hk => ⟨(Nat.le_trans (below_size hB_) hk), Kd.fresh' (Kd.N_lt (by (with_reducible repeat (first | apply Kd.N_alloc | apply Kd.N_drewN | apply Kd.N_drew)); exact HO_10.out)) k_ hk, Kd.fresh' (Kd.R_lt (rr_ HO1344)) k_ hk, Kd.freshB (kk_ BK1341) k_ hk⟩)); (case aO => exact (by (with_reducible repeat (first | apply Kd.N_alloc | apply Kd.N_drewN | apply Kd.N_drew)); exact Kd.N_mono HO_5.out (fun _ hk => ⟨hk.1.1.1, ⟨hk.1.1.2, ⟨hk.2, hk.1.2⟩⟩⟩))); (case aS => exact (below_size hB_)); (case aL => have := LMc14.out; omega); intro v1347 w20 ho hb hg hat; rw [← Ny1346.out] at ho; replace HO_10 := Aside0.mk (Kd.N_afterv (ok := (fun k_ => (w.heap.size ≤ k_) ∧ some k_ ≠ (.slice Ao18 t1342.length co18 : Value).ownBlock ∧ k_ ≠ gb1341)) (by (with_reducible repeat (first | apply Kd.N_alloc | apply Kd.N_drewN | apply Kd.N_drew)); exact Kd.N_mono HO_10.out (fun _ hk => ⟨⟨hk.1.1.1, ⟨hk.2, hk.1.2⟩⟩, hk.1.1.2⟩)) hg hat); replace HL1340_0 := Aside0.mk (Kd.V_afterv (ok := (fun k_ => (w.heap.size ≤ k_) ∧ some k_ ≠ (.slice (some ad1340) t1337.length co7 : Value).ownBlock ∧ some k_ ≠ (.slice Ao18 t1342.length co18 : Value).ownBlock ∧ k_ ≠ gb1341)) (by (with_reducible repeat (first | apply Kd.V_alloc | apply Kd.V_drewN | apply Kd.V_drew)); exact Kd.V_mono HL1340_0.out (fun _ hk => ⟨⟨hk.1.1.1.1, ⟨hk.1.1.2, ⟨hk.2, hk.1.2⟩⟩⟩, hk.1.1.1.2⟩)) hg hat); replace HL1340_1 := Aside0.mk (Kd.V_afterv (ok := (fun k_ => (w.heap.size ≤ k_) ∧ some k_ ≠ (.slice (some ad1340) t1337.length co7 : Value).ownBlock ∧ some k_ ≠ (.slice Ao18 t1342.length co18 : Value).ownBlock ∧ k_ ≠ gb1341)) (by (with_reducible repeat (first | apply Kd.V_alloc | apply Kd.V_drewN | apply Kd.V_drew)); exact Kd.V_mono HL1340_1.out (fun _ hk => ⟨⟨hk.1.1.1.1, ⟨hk.1.1.2, ⟨hk.2, hk.1.2⟩⟩⟩, hk.1.1.1.2⟩)) hg hat); replace BK1341 := Aside0.mk (blk_grown (kk_ BK1341) hg (Kd.N_away HO_5.out (fun _ hk => hk.1.2))); replace HO1344 := Aside0.mk (Kd.R_over' (rr_ HO1344) (Kd.N_typed (by (with_reducible repeat (first | apply Kd.N_alloc | apply Kd.N_drewN | apply Kd.N_drew)); exact HO_5.out)) (by decide) hg); replace HB := Aside0.mk hb; have HO1348 := Aside0.mk ho; clear HO_5; clear ho hb hg hat))
          go_roundg k1
          case measure => have := HK1.out; omega
          case rel => exact ⟨(y1346), (wrap64 (x12_1 + 1)), qc_, H', ⟨by have := HK1.out; omega⟩, ⟨by (with_reducible repeat (first | apply Kd.N_alloc | apply Kd.N_drewN | apply Kd.N_drew)); exact Kd.N_mono HO1348.out (fun _ hk => ⟨hk.1, hk.2.1⟩)⟩, ⟨by (with_reducible repeat (first | apply Kd.N_alloc | apply Kd.N_drewN | apply Kd.N_drew)); exact Kd.N_mono HO_10.out (fun _ hk => ⟨hk.1.1, hk.2⟩)⟩, ⟨hB_⟩⟩
        · replace c13 := Bool.eq_false_iff.mpr c13
          subst c13
          have H1 : (spec_SurfacesIn.l0 k1 l1 x5_1 t1337 (t1337.length : Int) (wrap64 (x12_1 + 1))) = some r := by rw [if_neg (show ¬ (false = true) by decide)] at H; exact H
          clear H
          have H := H1
          clear H1
          have H' := Aside0.mk H
          clear H
          have p1340 : 0 ≤ (x12_1 : Int) := of_decide_eq_true qe_
          have q1340 : x12_1 < (t1337.length : Int) := of_decide_eq_true qe_
          obtain ⟨ad1340, A1340_0, c1340_0, A1340_1, c1340_1, e1340, hx1340_0, hx1340_1, hl1340_0, hi1340_0, hl1340_1, hi1340_1⟩ := at_T33 (Kd.N_reads' HO_10.out).2.2 x12_1 p1340 q1340
          cases e1340
          obtain ⟨ce1340, hce1340, hMe1340, hcc1340⟩ := Kd.N_get HO_10.out z33 x12_1 p1340 (by first | exact q1340 | exact of_decide_eq_true qe_ | (have e_ := (Kd.N_reads' HO_10.out).1; omega))
          obtain ⟨ua1340_0, uc1340_0, ua1340_1, uc1340_1, rfl, ul1340_0, ge1340_0, ul1340_1, ge1340_1⟩ := k33_openF hMe1340
          have hv1340_0 := hcc1340 0 _ rfl
          rw [Nat.add_zero] at hv1340_0
          replace hv1340_0 := Option.some.inj (hv1340_0.symm.trans hx1340_0)
          injection hv1340_0 with hva_ hvn_ hvc_
          rw [hva_] at ge1340_0
          rw [hvc_] at ul1340_0
          have HL1340_0 := Aside0.mk (show Kd.V (Kd.int .i64) 3 _ w.heap.size _ _ ((rd_T33 t1337 x12_1).f0) from Kd.V_mk ul1340_0 ge1340_0)
          clear hva_ hvn_ hvc_ ge1340_0 ul1340_0
          have hv1340_1 := hcc1340 1 _ rfl
          rw [add_field _ _ 1 (by omega)] at hv1340_1
          replace hv1340_1 := Option.some.inj (hv1340_1.symm.trans hx1340_1)
          injection hv1340_1 with hva_ hvn_ hvc_
          rw [hva_] at ge1340_1
          rw [hvc_] at ul1340_1
          have HL1340_1 := Aside0.mk (show Kd.V (Kd.int .i64) 3 _ w.heap.size _ _ ((rd_T33 t1337 x12_1).f1) from Kd.V_mk ul1340_1 ge1340_1)
          clear hva_ hvn_ hvc_ ge1340_1 ul1340_1
          clear hcc1340 hce1340
          have HR1340_0 := Aside0.mk hi1340_0
          have HC1340_0 := Aside0.mk hl1340_0
          clear hi1340_0 hl1340_0
          have HR1340_1 := Aside0.mk hi1340_1
          have HC1340_1 := Aside0.mk hl1340_1
          clear hi1340_1 hl1340_1
          replace p1340 := eq_true p1340
          replace q1340 := eq_true q1340
          go_wp2_with (first | ((with_reducible refine gate_dst (N := 7) rfl ?_); refine bx_ 7 #[.slice none 0 0, .slice none 0 0] 33 ?_; intro gb1341 hg w21 hbox hb; replace HO_5 := Aside0.mk (Kd.N_below (Kd.N_elderB (by (with_reducible repeat (first | apply Kd.N_alloc | apply Kd.N_drewN | apply Kd.N_drew)); exact HO_5.out) gb1341 (Nat.le_of_eq hg.symm)) hb); replace HO_10 := Aside0.mk (Kd.N_below (Kd.N_elderB (by (with_reducible repeat (first | apply Kd.N_alloc | apply Kd.N_drewN | apply Kd.N_drew)); exact HO_10.out) gb1341 (Nat.le_of_eq hg.symm)) hb); replace HL1340_0 := Aside0.mk (Kd.V_below (Kd.V_elderB (by (with_reducible repeat (first | apply Kd.V_alloc | apply Kd.V_drewN | apply Kd.V_drew)); exact HL1340_0.out) gb1341 (Nat.le_of_eq hg.symm)) hb); replace HL1340_1 := Aside0.mk (Kd.V_below (Kd.V_elderB (by (with_reducible repeat (first | apply Kd.V_alloc | apply Kd.V_drewN | apply Kd.V_drew)); exact HL1340_1.out) gb1341 (Nat.le_of_eq hg.symm)) hb); replace HR1340_0 := Aside0.mk (Kd.C_below (by repeat (first | (with_reducible exact HR1340_0.out) | (with_reducible refine Kd.C_alloc ?_ _) | (with_reducible refine Kd.C_drewN ?_ _) | (with_reducible refine Kd.C_drew ?_) | exact HR1340_0.out)) hb); replace HR1340_1 := Aside0.mk (Kd.C_below (by repeat (first | (with_reducible exact HR1340_1.out) | (with_reducible refine Kd.C_alloc ?_ _) | (with_reducible refine Kd.C_drewN ?_ _) | (with_reducible refine Kd.C_drew ?_) | exact HR1340_1.out)) hb); have BK1341 := Aside0.mk hbox; have GW1341 := gw_ w hg; have GE1341 := GW1341; replace HB := b1_ hb; clear hb hbox hg; obtain ⟨hcz22_0, hcz22_1, hfz22_0, hfz22_1⟩ := c2_ BK1341) | ((with_reducible refine gate_callee (f := 135) rfl ?_); refine gL_ (some 17) Try.func135 #[.agg #[.slice A1340_0 ((rd_T33 t1337 x12_1).f0).length c1340_0, .slice A1340_1 ((rd_T33 t1337 x12_1).f1).length c1340_1]] rfl qa_ ?_; (with_reducible refine (spec_StratumOf.calls k1 _ _ ((rd_T33 t1337 x12_1).f0) _ _ ((rd_T33 t1337 x12_1).f1) t1342 _ ?side1 ?side2 ?side3 ?side4 A11.out).mono ?_); (case side1 => repeat (first | exact ((Kd.V_reads' (by (with_reducible repeat (first | apply Kd.V_alloc | apply Kd.V_drewN | apply Kd.V_drew)); exact (Kd.V_mono (Kd.V_far (p := ⟨gb1341, 1, none⟩) (Kd.V_far (p := ⟨gb1341, 0, none⟩) (Kd.V_mono HL1340_0.out (fun k_ hk => (⟨hk, hk.2⟩ : _ ∧ k_ ≠ gb1341))) (fun _ hk => hk.2) (.slice A1340_0 ((rd_T33 t1337 x12_1).f0).length c1340_0)) (fun _ hk => hk.2) (.slice A1340_1 ((rd_T33 t1337 x12_1).f1).length c1340_1)) (fun _ h_ => h_.1)))).2.2) | (with_reducible refine Kd.C_alloc ?_ _) | (with_reducible refine Kd.C_drewN ?_ _) | (with_reducible refine Kd.C_drew ?_))); (case side2 => exact HC1340_0.out); (case side3 => repeat (first | exact ((Kd.V_reads' (by (with_reducible repeat (first | apply Kd.V_alloc | apply Kd.V_drewN | apply Kd.V_drew)); exact (Kd.V_mono (Kd.V_far (p := ⟨gb1341, 1, none⟩) (Kd.V_far (p := ⟨gb1341, 0, none⟩) (Kd.V_mono HL1340_1.out (fun k_ hk => (⟨hk, hk.2⟩ : _ ∧ k_ ≠ gb1341))) (fun _ hk => hk.2) (.slice A1340_0 ((rd_T33 t1337 x12_1).f0).length c1340_0)) (fun _ hk => hk.2) (.slice A1340_1 ((rd_T33 t1337 x12_1).f1).length c1340_1)) (fun _ h_ => h_.1)))).2.2) | (with_reducible refine Kd.C_alloc ?_ _) | (with_reducible refine Kd.C_drewN ?_ _) | (with_reducible refine Kd.C_drew ?_))); (case side4 => exact HC1340_1.out); rintro e w23 ⟨v1343, rfl, ho0, hb⟩; refine ⟨_, rfl, ?_⟩; replace HO_5 := Aside0.mk (Kd.N_elder' (by (with_reducible repeat (first | apply Kd.N_alloc | apply Kd.N_drewN | apply Kd.N_drew)); exact (Kd.N_mono (Kd.N_far (p := ⟨gb1341, 1, none⟩) (Kd.N_far (p := ⟨gb1341, 0, none⟩) (Kd.N_mono HO_5.out (fun k_ hk => (⟨hk, hk.2⟩ : _ ∧ k_ ≠ gb1341))) (fun _ hk => hk.2) (.slice A1340_0 ((rd_T33 t1337 x12_1).f0).length c1340_0)) (fun _ hk => hk.2) (.slice A1340_1 ((rd_T33 t1337 x12_1).f1).length c1340_1)) (fun _ h_ => h_.1))) (Kd.R_base ho0) hb); replace HO_10 := Aside0.mk (Kd.N_elder' (by (with_reducible repeat (first | apply Kd.N_alloc | apply Kd.N_drewN | apply Kd.N_drew)); exact (Kd.N_mono (Kd.N_far (p := ⟨gb1341, 1, none⟩) (Kd.N_far (p := ⟨gb1341, 0, none⟩) (Kd.N_mono HO_10.out (fun k_ hk => (⟨hk, hk.2⟩ : _ ∧ k_ ≠ gb1341))) (fun _ hk => hk.2) (.slice A1340_0 ((rd_T33 t1337 x12_1).f0).length c1340_0)) (fun _ hk => hk.2) (.slice A1340_1 ((rd_T33 t1337 x12_1).f1).length c1340_1)) (fun _ h_ => h_.1))) (Kd.R_base ho0) hb); have HO1344 := Aside0.mk (Kd.R_lower (Kd.R_newM (M := fun k_ => (w.heap.size ≤ k_)) ho0 (below_size hB_) (fun k_ h_ => h_)) (below_size hB_)); replace HR1340_0 := Aside0.mk (Kd.C_below ((Kd.V_reads' (by (with_reducible repeat (first | apply Kd.V_alloc | apply Kd.V_drewN | apply Kd.V_drew)); exact (Kd.V_mono (Kd.V_far (p := ⟨gb1341, 1, none⟩) (Kd.V_far (p := ⟨gb1341, 0, none⟩) (Kd.V_mono HL1340_0.out (fun k_ hk => (⟨hk, hk.2⟩ : _ ∧ k_ ≠ gb1341))) (fun _ hk => hk.2) (.slice A1340_0 ((rd_T33 t1337 x12_1).f0).length c1340_0)) (fun _ hk => hk.2) (.slice A1340_1 ((rd_T33 t1337 x12_1).f1).length c1340_1)) (fun _ h_ => h_.1)))).2.2) hb); replace HL1340_0 := Aside0.mk (Kd.V_elder' (by (with_reducible repeat (first | apply Kd.V_alloc | apply Kd.V_drewN | apply Kd.V_drew)); exact (Kd.V_mono (Kd.V_far (p := ⟨gb1341, 1, none⟩) (Kd.V_far (p := ⟨gb1341, 0, none⟩) (Kd.V_mono HL1340_0.out (fun k_ hk => (⟨hk, hk.2⟩ : _ ∧ k_ ≠ gb1341))) (fun _ hk => hk.2) (.slice A1340_0 ((rd_T33 t1337 x12_1).f0).length c1340_0)) (fun _ hk => hk.2) (.slice A1340_1 ((rd_T33 t1337 x12_1).f1).length c1340_1)) (fun _ h_ => h_.1))) (Kd.R_base ho0) hb); replace HR1340_1 := Aside0.mk (Kd.C_below ((Kd.V_reads' (by (with_reducible repeat (first | apply Kd.V_alloc | apply Kd.V_drewN | apply Kd.V_drew)); exact (Kd.V_mono (Kd.V_far (p := ⟨gb1341, 1, none⟩) (Kd.V_far (p := ⟨gb1341, 0, none⟩) (Kd.V_mono HL1340_1.out (fun k_ hk => (⟨hk, hk.2⟩ : _ ∧ k_ ≠ gb1341))) (fun _ hk => hk.2) (.slice A1340_0 ((rd_T33 t1337 x12_1).f0).length c1340_0)) (fun _ hk => hk.2) (.slice A1340_1 ((rd_T33 t1337 x12_1).f1).length c1340_1)) (fun _ h_ => h_.1)))).2.2) hb); replace HL1340_1 := Aside0.mk (Kd.V_elder' (by (with_reducible repeat (first | apply Kd.V_alloc | apply Kd.V_drewN | apply Kd.V_drew)); exact (Kd.V_mono (Kd.V_far (p := ⟨gb1341, 1, none⟩) (Kd.V_far (p := ⟨gb1341, 0, none⟩) (Kd.V_mono HL1340_1.out (fun k_ hk => (⟨hk, hk.2⟩ : _ ∧ k_ ≠ gb1341))) (fun _ hk => hk.2) (.slice A1340_0 ((rd_T33 t1337 x12_1).f0).length c1340_0)) (fun _ hk => hk.2) (.slice A1340_1 ((rd_T33 t1337 x12_1).f1).length c1340_1)) (fun _ h_ => h_.1))) (Kd.R_base ho0) hb); replace BK1341 := Aside0.mk (blk_below (g := gb1341) (o := .cells #[.slice A1340_0 ((rd_T33 t1337 x12_1).f0).length c1340_0, .slice A1340_1 ((rd_T33 t1337 x12_1).f1).length c1340_1] 33 (0, 0)) qp_ hb); replace HB := b1_ hb; clear hb ho0; obtain ⟨Ao24, co24, eo24⟩ := Kd.R_slice HO1344.out; subst eo24) | ((with_reducible refine gate_callee (f := 134) rfl ?_); refine gL_ (some 19) Try.func134 #[.slice Ao24 t1342.length co24, .slice A1 l1.length c1] rfl qa_ ?_; (with_reducible refine (spec_SameList.calls k1 _ _ t1342 _ _ l1 false _ (cr_ HO1344) ((Kd.R_reads' HO1344.out).2.1) (cb_ HR1) HC1.out A12.out).mono ?_); rintro e w' ⟨rfl, ⟨nd, rfl⟩⟩; refine ⟨_, rfl, ?_⟩))
          go_roundg k1
          case measure => have := HK1.out; omega
          case rel => exact ⟨(x5_1), (wrap64 (x12_1 + 1)), qc_, H', ⟨by have := HK1.out; omega⟩, ⟨by (with_reducible repeat (first | apply Kd.N_alloc | apply Kd.N_drewN | apply Kd.N_drew)); exact Kd.N_mono HO_5.out (fun _ hk => ⟨hk.1.1.1, hk.1.1.2⟩)⟩, ⟨by (with_reducible repeat (first | apply Kd.N_alloc | apply Kd.N_drewN | apply Kd.N_drew)); exact Kd.N_mono HO_10.out (fun _ hk => ⟨hk.1.1.1, hk.1.1.2⟩)⟩, ⟨hB_⟩⟩
      · rw [if_neg c8] at H
        have c8b0 := decide_eq_false c8
        clear c8
        obtain rfl := Option.some.inj H
        go_wp2
        go_ret
        exact ⟨_, qb_, by (with_reducible repeat (first | apply Kd.N_alloc | apply Kd.N_drewN | apply Kd.N_drew)); exact Kd.N_mono HO_5.out (fun _ hk => hk.1), hB_⟩
end Go.Proofs.Ytoijcallajegfaa.A
end
section
namespace Go.Proofs.Ytoijcallajegfaa.A
open Go.RowKit Go.Proofs.YtoijcallajegfaaW.PrintWords Go.Proofs.YtoijcallajegfaaW.PrintLast Go.Proofs.YtoijcallajegfaaW.PrintMore
attribute [local go_sem] max2_int min2_int max_two min_two max_three min_three max_four min_four
set_option linter.unusedVariables false
set_option linter.unusedSimpArgs false
def spec_CountTori.f (k : Nat) (a0 : Int) : Option (Int) := (spec_l01In.f a0 1 4).bind fun t1349 => (if t1349 = true then ((spec_SurfacesIn.f k a0 ([] : List Int)).bind fun t1350 => (some (t1350.length : Int))) else (some (-1)))
theorem spec_CountTori.mono : ∀ a0 k, LeO (spec_CountTori.f k a0) (spec_CountTori.f (k + 1) a0) := by
  intro a0 k
  unfold spec_CountTori.f
  repeat' first|exact spec_SurfacesIn.mono _ _ _|exact lo_|refine LeO.ite ?_ ?_|refine LeO.bind ?_ (fun _ => ?_)
set_option maxHeartbeats 8000000 in
set_option maxRecDepth 100000 in
theorem spec_CountTori.calls (k : Nat) (a0 : Int) (r : Int) (w : World) (h : spec_CountTori.f k a0 = some r) :
    Calls Try.prog 43 #[.int .i64 a0] w fun e w' => e = .returned (.int .i64 r) ∧ Below w.heap.size w w' := by
  have HB := Aside0.mk (Below.refl w.heap.size w)
  have H := h
  unfold spec_CountTori.f at H
  clear h
  obtain ⟨t1349, A2, H⟩ := bi_ H
  by_cases c3 : t1349 = true
  · subst c3
    rw [if_pos rfl] at H
    obtain ⟨t1350, A4, H⟩ := bi_ H
    obtain rfl := Option.some.inj H
    go_enter Try.func43, Try.ntmps43
    go_wp2_with (first | ((with_reducible refine gate_callee (f := 83) rfl ?_); refine gL_ (some 4) Try.func83 #[.int .i64 a0, .int .i64 1, .int .i64 4] rfl qa_ ?_; (with_reducible refine (spec_l01In.calls a0 1 4 true _ A2.out).mono ?_); rintro e w' ⟨rfl, ⟨nd, rfl⟩⟩; refine ⟨_, rfl, ?_⟩) | ((with_reducible refine gate_callee (f := 96) rfl ?_); refine gL_ (some 7) Try.func96 #[.int .i64 a0, .slice none 0 0] rfl qa_ ?_; (refine (spec_SurfacesIn.calls k a0 _ _ ([] : List Int) t1350 _ ?side1 ?side2 A4.out).mono ?_); (case side1 => exact Kd.C_nil _ _); (case side2 => exact Nat.le_refl _); rintro e w5 ⟨v1351, rfl, ho0, hb⟩; refine ⟨_, rfl, ?_⟩; have HO1352 := Aside0.mk (Kd.N_lower (Kd.N_mono (ok' := fun k_ => True) ho0 (fun k_ hk_ => trivial)) (below_size hB_)); replace HB := b1_ hb; clear hb ho0; obtain ⟨Ao6, co6, eo6⟩ := Kd.N_slice HO1352.out; subst eo6))
    go_ret
    exact ⟨qb_, hB_⟩
  · replace c3 := Bool.eq_false_iff.mpr c3
    subst c3
    have H1 : (some (-1)) = some r := by rw [if_neg (show ¬ (false = true) by decide)] at H; exact H
    clear H
    have H := H1
    clear H1
    obtain rfl := Option.some.inj H
    go_enter Try.func43, Try.ntmps43
    go_wp2_with (first | ((with_reducible refine gate_callee (f := 83) rfl ?_); refine gL_ (some 4) Try.func83 #[.int .i64 a0, .int .i64 1, .int .i64 4] rfl qa_ ?_; (with_reducible refine (spec_l01In.calls a0 1 4 false _ A2.out).mono ?_); rintro e w' ⟨rfl, ⟨nd, rfl⟩⟩; refine ⟨_, rfl, ?_⟩))
    go_ret
    exact ⟨qb_, hB_⟩
end Go.Proofs.Ytoijcallajegfaa.A
end
section
namespace Go.Proofs.Ytoijcallajegfaa.A
open Go.RowKit Go.Proofs.YtoijcallajegfaaW.PrintWords Go.Proofs.YtoijcallajegfaaW.PrintLast Go.Proofs.YtoijcallajegfaaW.PrintMore Go.Proofs.Ytoijcallajegfaa.M
set_option linter.unusedVariables false
set_option linter.unusedSimpArgs false
def laws_FnExactCountTori.F (k : Nat) (a0 : Int) : Prop := ∃ (r0 : Int), spec_CountTori.f k a0 = some r0 ∧ impl_CountTori.f k a0 = some r0
set_option maxHeartbeats 8000000 in
set_option maxRecDepth 100000 in
theorem laws_FnExactCountTori.calls (k : Nat) (a0 : Int) (w : World)  (h : laws_FnExactCountTori.F k a0) :
    Calls Try.prog 9 #[.int .i64 a0] w fun e w' => e = .returned (.bool true) ∧ Below w.heap.size w w' := by
  have HB := Aside0.mk (Below.refl w.heap.size w)
  unfold laws_FnExactCountTori.F at h
  obtain ⟨r0, FW, FG⟩ := h
  replace FW := Aside0.mk FW
  replace FG := Aside0.mk FG
  go_enter Try.func9, Try.ntmps9
  go_upto_region 1 with (fail)
  go_upto_region 2 with (first | ((with_reducible refine gate_callee (f := 43) rfl ?_); refine goesL_ _ rfl rfl Try.func43 (by kernel_rfl) rfl #[.int .i64 a0] rfl (by (try simp only [List.map_toArray, List.map_cons, List.map_nil]); first | done | rfl) ?_; have HBo := HB.out; refine (spec_CountTori.calls k a0 r0 _  FW.out).mono ?_; rintro e w1 ⟨rfl, hb0⟩; refine ⟨_, rfl, ?_⟩; have n_ := Aside0.mk (below_then HBo HBo.size hb0); clear HB; have HB := n_; clear n_; have HSw1 := Aside0.mk hb0.size; clear hb0 HBo))
  go_wp2_with (first | ((with_reducible refine gate_callee (f := 13) rfl ?_); refine goesL_ _ rfl rfl Try.func13 (by kernel_rfl) rfl #[.int .i64 a0] rfl (by (try simp only [List.map_toArray, List.map_cons, List.map_nil]); first | done | rfl) ?_; have HBo := HB.out; refine (impl_CountTori.calls k a0 r0 _  FG.out).mono ?_; rintro e w2 ⟨rfl, hb0⟩; refine ⟨_, rfl, ?_⟩; have n_ := Aside0.mk (below_then HBo HBo.size hb0); clear HB; have HB := n_; clear n_; have HSw2 := Aside0.mk hb0.size; clear hb0 HBo))
  go_ret
  exact ⟨rfl, HB.out⟩
end Go.Proofs.Ytoijcallajegfaa.A
end
section
/- Lists of surfaces sorted, each once: put in one by one, or all at the end. No conditions. -/
namespace Go.Proofs.Ytoijcallajegfaa.M
set_option linter.unusedVariables false
set_option linter.unusedSimpArgs false
open Go.RowKit Go.Proofs.YtoijcallajegfaaW.PrintWords Go.Proofs.YtoijcallajegfaaW.PrintLast Go.Proofs.YtoijcallajegfaaW.PrintMore Go.Proofs.Ytoijcallajegfaa.A
def Up (l : List (List Nat × List Nat)) : Prop := l.Pairwise (fun a b => cmpS a b < 0)
theorem Up.nodup {l : List (List Nat × List Nat)} (h : Up l) : l.Nodup :=
  h.imp (fun {a b} hab e => by subst e; rw [(cmpS_eq _ _).2 rfl] at hab; omega)
theorem up_uniq {l l' : List (List Nat × List Nat)} (h : Up l) (h' : Up l') (hm : ∀ x, x ∈ l ↔ x ∈ l') : l = l' := by
  refine List.Perm.eq_of_pairwise (le := fun a b => cmpS a b < 0) ?_ h h' ((List.perm_ext_iff_of_nodup h.nodup h'.nodup).2 hm)
  intro a b _ _ h1 h2
  have := cmpS_neg a b
  omega
def insS (l : List (List Nat × List Nat)) (s : List Nat × List Nat) : List (List Nat × List Nat) :=
  match l with
  | [] => [s]
  | x :: xs => if x = s then x :: xs else if cmpS s x < 0 then s :: x :: xs else x :: insS xs s
theorem mem_insS {l : List (List Nat × List Nat)} {s y : List Nat × List Nat} : y ∈ insS l s ↔ y = s ∨ y ∈ l := by
  induction l with
  | nil => simp [insS]
  | cons x xs ih =>
    unfold insS
    split
    · rename_i e; subst e; simp
    · split
      · simp
      · simp only [List.mem_cons, ih]
        constructor
        · rintro (h | h | h)
          · exact .inr (.inl h)
          · exact .inl h
          · exact .inr (.inr h)
        · rintro (h | h | h)
          · exact .inr (.inl h)
          · exact .inl h
          · exact .inr (.inr h)
theorem up_insS {l : List (List Nat × List Nat)} (s : List Nat × List Nat) (h : Up l) : Up (insS l s) := by
  induction l with
  | nil => exact List.pairwise_singleton _ _
  | cons x xs ih =>
    obtain ⟨h1, h2⟩ := List.pairwise_cons.1 h
    unfold insS
    split
    · exact h
    · rename_i hne
      split
      · rename_i hlt
        refine List.pairwise_cons.2 ⟨?_, h⟩
        intro y hy
        rcases List.mem_cons.1 hy with rfl | hy
        · exact hlt
        · exact cmpS_tr _ _ _ hlt (h1 y hy)
      · rename_i hnl
        refine List.pairwise_cons.2 ⟨?_, ih h2⟩
        intro y hy
        rcases mem_insS.1 hy with rfl | hy
        · have e := cmpS_neg x y
          have : cmpS x y ≠ 0 := fun h0 => hne ((cmpS_eq _ _).1 h0)
          omega
        · exact h1 y hy
def insAll (l : List (List Nat × List Nat)) (ss : List (List Nat × List Nat)) : List (List Nat × List Nat) := ss.foldl insS l
theorem up_insAll : ∀ (ss l : List (List Nat × List Nat)), Up l → Up (insAll l ss)
  | [], _, h => h
  | s :: ss, l, h => up_insAll ss (insS l s) (up_insS s h)
theorem mem_insAll : ∀ (ss l : List (List Nat × List Nat)) (y : List Nat × List Nat), y ∈ insAll l ss ↔ y ∈ l ∨ y ∈ ss
  | [], l, y => by simp [insAll]
  | s :: ss, l, y => by
    have := mem_insAll ss (insS l s) y
    rw [mem_insS] at this
    show y ∈ insAll (insS l s) ss ↔ _
    rw [this, List.mem_cons]
    constructor
    · rintro ((h | h) | h)
      · exact .inr (.inl h)
      · exact .inl h
      · exact .inr (.inr h)
    · rintro (h | h | h)
      · exact .inl (.inr h)
      · exact .inl (.inl h)
      · exact .inr h
theorem mem_cptGo : ∀ (p : List Nat × List Nat) (l : List (List Nat × List Nat)) (y : List Nat × List Nat), y ∈ p :: cptGo (fun a b => decide (a = b)) p l ↔ y ∈ p :: l
  | p, [], y => by simp [cptGo]
  | p, x :: l, y => by
    have := mem_cptGo x l y
    unfold cptGo
    by_cases e : x = p
    · subst e
      simp only [decide_true, if_true]
      rw [this]
      simp
    · simp only [e, decide_false, Bool.false_eq_true, if_false]
      rw [List.mem_cons, this, List.mem_cons (l := x :: l)]
theorem up_cptGo : ∀ (p : List Nat × List Nat) (l : List (List Nat × List Nat)), (p :: l).Pairwise (fun a b => ¬ cmpS b a < 0) → Up (p :: cptGo (fun a b => decide (a = b)) p l)
  | p, [], _ => List.pairwise_singleton _ _
  | p, x :: l, h => by
    obtain ⟨h1, h2⟩ := List.pairwise_cons.1 h
    have := up_cptGo x l h2
    unfold cptGo
    by_cases e : x = p
    · subst e
      simp only [decide_true, if_true]
      exact this
    · simp only [e, decide_false, Bool.false_eq_true, if_false]
      refine List.pairwise_cons.2 ⟨?_, this⟩
      intro y hy
      rw [mem_cptGo] at hy
      have hpx : cmpS p x < 0 := by
        have a := h1 x (by simp)
        have b := cmpS_neg p x
        have c : cmpS p x ≠ 0 := fun h0 => e ((cmpS_eq _ _).1 h0).symm
        omega
      rcases List.mem_cons.1 hy with rfl | hy
      · exact hpx
      · have hxy := (List.pairwise_cons.1 h2).1 y hy
        by_cases e0 : cmpS x y = 0
        · rw [← (cmpS_eq _ _).1 e0]; exact hpx
        · have := cmpS_neg x y
          exact cmpS_tr _ _ _ hpx (by omega)
theorem sortS_ins (l : List (List Nat × List Nat)) : sortS l = insAll [] l := by
  have hp := List.mergeSort_perm l (fun a b => decide (¬ cmpS b a < 0))
  have hs : (l.mergeSort (fun a b => decide (¬ cmpS b a < 0))).Pairwise (fun a b => ¬ cmpS b a < 0) := by
    have := List.pairwise_mergeSort (le := fun a b => decide (¬ cmpS b a < 0)) (fun a b c h1 h2 => decide_eq_true (cmpS_le_tr c b a (of_decide_eq_true h2) (of_decide_eq_true h1))) (fun a b => by
      have := cmpS_neg a b
      simp only [Bool.or_eq_true, decide_eq_true_eq]
      omega) l
    exact this.imp (fun h => of_decide_eq_true h)
  unfold sortS
  generalize l.mergeSort (fun a b => decide (¬ cmpS b a < 0)) = m at hp hs
  have h2 := up_insAll l [] List.Pairwise.nil
  cases m with
  | nil =>
    have : l = [] := hp.symm.eq_nil
    subst this
    rfl
  | cons x m =>
    refine up_uniq (up_cptGo x m hs) h2 ?_
    intro y
    rw [mem_insAll]
    show y ∈ x :: cptGo (fun a b => decide (a = b)) x m ↔ _
    rw [mem_cptGo, hp.mem_iff]
    simp
end Go.Proofs.Ytoijcallajegfaa.M
end
section
/- Cycles: the program and the reference answer alike. No conditions. -/
namespace Go.Proofs.Ytoijcallajegfaa.M
set_option linter.unusedVariables false
set_option linter.unusedSimpArgs false
open Go.RowKit Go.Proofs.YtoijcallajegfaaW.PrintWords Go.Proofs.YtoijcallajegfaaW.PrintLast Go.Proofs.YtoijcallajegfaaW.PrintMore Go.Proofs.Ytoijcallajegfaa.A
def I2 (l : List (List Nat)) : List (List Int) := l.map I
theorem I2_len (l : List (List Nat)) : (I2 l).length = l.length := by simp [I2]
theorem I2_snoc (l : List (List Nat)) (c : List Nat) : I2 l ++ [I c] = I2 (l ++ [c]) := by simp [I2]
theorem cyc_len (p : List Nat) (i : Nat) : (cyc p i).length ≤ i := by
  induction i with
  | zero => simp [cyc]
  | succ i ih =>
    unfold cyc
    split
    · omega
    · simp
      omega
theorem orbTo_len (p : List Nat) (s m : Nat) : (orbTo p s m).length = m := by simp [orbTo]
theorem mem_flat {l : List (List Nat)} {x : Nat} : x ∈ l.flatten ↔ ∃ c ∈ l, x ∈ c := by simp
theorem cyc_next {p : List Nat} (hp : IsP p) {i m : Nat} (hi : i < p.length) (hnew : ¬ ∃ c ∈ cyc p i, i ∈ c) (hm : m < per p i) : itr p m i ∉ (cyc p i).flatten ++ orbTo p i m := by
  intro h
  rcases List.mem_append.mp h with h | h
  · exact cyc_new hp hi hnew ((mem_orb hp hi).mpr ⟨m, rfl⟩) (mem_flat.mp h)
  · by_cases e : m = 0
    · subst e
      simp [orbTo] at h
    · exact orb_close hp hi hm (by omega) h
theorem cyc_shut {p : List Nat} (hp : IsP p) {i : Nat} (hi : i < p.length) : itr p (per p i) i ∈ (cyc p i).flatten ++ orbTo p i (per p i) := by
  rw [(per_spec hp hi).1]
  exact List.mem_append.mpr (.inr (orb_self hp hi))
theorem cyc_succ_new {p : List Nat} {i : Nat} (hnew : ¬ ∃ c ∈ cyc p i, i ∈ c) : cyc p (i + 1) = cyc p i ++ [orb p i] := by
  rw [cyc, if_neg hnew]
theorem cyc_succ_old {p : List Nat} {i : Nat} (h : ∃ c ∈ cyc p i, i ∈ c) : cyc p (i + 1) = cyc p i := by
  rw [cyc, if_pos h]
theorem marks_rep (n : Nat) : Marks n (List.replicate n false) ([] : List Nat) := by
  refine ⟨by simp, fun x hx => ?_⟩
  rw [List.getD_eq_getElem?_getD, List.getElem?_replicate]
  simp [hx]
theorem impl_cycles {p : List Nat} (hp : IsP p) (h24 : p.length ≤ 24) : Ev (fun k => impl_CyclesOf.f k (I p)) (I2 (cycles p)) := by
  unfold impl_CyclesOf.f
  refine Ev.bind (impl_permOk (I p)) ?_
  have h0 : permB (I p) = true := permB_I.mpr ⟨hp, h24⟩
  have h1 : (0 : Int) ≤ (p.length : Int) := by omega
  have h2 : p.length ≤ 281474976710656 := by omega
  simp only [h0, I_len', h1, h2, if_true, Int.toNat_natCast]
  have H : ∀ (d i : Nat) (s : List Bool), i + d = p.length → Marks p.length s (cyc p i).flatten → Ev (fun k => impl_CyclesOf.l0 k (I p) s (I2 (cyc p i)) (p.length : Int) (i : Int)) (I2 (cycles p)) := by
    intro d
    induction d with
    | zero =>
      intro i s h hm
      obtain rfl : i = p.length := by omega
      refine ev_succ ?_
      have h1 : ¬ ((p.length : Int) < (p.length : Int)) := by omega
      simp only [impl_CyclesOf.l0, h1, if_false]
      exact Ev.now _
    | succ d ih =>
      intro i s h hm
      have hi : i < p.length := by omega
      have c1 : (i : Int) < (p.length : Int) := by omega
      have c2 : (0 : Int) ≤ (i : Int) := by omega
      have c3 : (i : Int) < (s.length : Int) := by have := hm.1; omega
      have h3 := w64s i (by omega)
      refine ev_succ ?_
      by_cases hs : s.getD i false = true
      · have ho := mem_flat.mp ((hm.2 i hi).mp hs)
        simp only [impl_CyclesOf.l0, c1, c2, c3, rdOf_nat, hs, if_true, h3]
        have := ih (i + 1) s (by omega) (by rw [cyc_succ_old ho]; exact hm)
        rw [cyc_succ_old ho] at this
        exact this
      · have hnew : ¬ ∃ c ∈ cyc p i, i ∈ c := fun h => hs ((hm.2 i hi).mpr (mem_flat.mpr h))
        simp only [impl_CyclesOf.l0, c1, c2, c3, rdOf_nat, hs, if_true, if_false]
        have G : ∀ (e m : Nat) (t : List Bool), m + e = per p i → Marks p.length t ((cyc p i).flatten ++ orbTo p i m) → Ev (fun k => impl_CyclesOf.l1 k (I p) t (I2 (cyc p i)) (I (orbTo p i m)) ((itr p m i : Nat) : Int) (p.length : Int) (i : Int)) (I2 (cycles p)) := by
          intro e
          induction e with
          | zero =>
            intro m t he ht
            obtain rfl : m = per p i := by omega
            refine ev_succ ?_
            have hx := itr_lt hp (per p i) hi
            have d1 : (0 : Int) ≤ ((itr p (per p i) i : Nat) : Int) := by omega
            have d2 : ((itr p (per p i) i : Nat) : Int) < (t.length : Int) := by have := ht.1; omega
            have d3 := (ht.2 _ hx).mpr (cyc_shut hp hi)
            have d4 : (I2 (cyc p i)).length < 5864062014805 := by rw [I2_len]; have := cyc_len p i; omega
            simp only [impl_CyclesOf.l1, d1, d2, rdOf_nat, d3, d4, if_true, h3]
            have := ih (i + 1) t (by omega) (by rw [cyc_succ_new hnew]; simpa [orb] using ht)
            rw [cyc_succ_new hnew, ← I2_snoc] at this
            exact this
          | succ e ihe =>
            intro m t he ht
            refine ev_succ ?_
            have hx := itr_lt hp m hi
            have hn := cyc_next hp hi hnew (m := m) (by omega)
            have d1 : (0 : Int) ≤ ((itr p m i : Nat) : Int) := by omega
            have d2 : ((itr p m i : Nat) : Int) < (t.length : Int) := by have := ht.1; omega
            have d3 : ¬ t.getD (itr p m i) false = true := fun k => hn ((ht.2 _ hx).mp k)
            have d4 : (I (orbTo p i m)).length < 17592186044416 := by rw [I_len, orbTo_len]; have := (per_spec hp hi).2.1; omega
            have d5 : ((itr p m i : Nat) : Int) < (p.length : Int) := by omega
            simp only [impl_CyclesOf.l1, d1, d2, rdOf_nat, d3, d4, d5, I_len', if_true, if_false, rdI, Int.toNat_natCast, I_snoc, orbTo_snoc]
            have := ihe (m + 1) (t.set (itr p m i) true) (by omega) (by
              have := ht.add hx
              rw [List.append_assoc, orbTo_snoc] at this
              exact this)
            exact this
        have := G (per p i) 0 s (by omega) (by simpa [orbTo] using hm)
        exact this
  exact H p.length 0 _ (by omega) (by simpa [cyc] using marks_rep p.length)
theorem spec_cycles {p : List Nat} (hp : IsP p) (h24 : p.length ≤ 24) : Ev (fun k => spec_CyclesOf.f k (I p)) (I2 (cycles p)) := by
  unfold spec_CyclesOf.f
  refine Ev.bind (spec_permOk (I p)) ?_
  have h0 : permB (I p) = true := permB_I.mpr ⟨hp, h24⟩
  have h1 : (0 : Int) ≤ (p.length : Int) := by omega
  have h2 : p.length ≤ 281474976710656 := by omega
  simp only [h0, I_len', h1, h2, if_true, Int.toNat_natCast]
  have H : ∀ (d i : Nat) (s : List Bool), i + d = p.length → Marks p.length s (cyc p i).flatten → Ev (fun k => spec_CyclesOf.l0 k (I p) (I2 (cyc p i)) s (p.length : Int) (i : Int)) (I2 (cycles p)) := by
    intro d
    induction d with
    | zero =>
      intro i s h hm
      obtain rfl : i = p.length := by omega
      refine ev_succ ?_
      have h1 : ¬ ((p.length : Int) < (p.length : Int)) := by omega
      simp only [spec_CyclesOf.l0, h1, if_false]
      exact Ev.now _
    | succ d ih =>
      intro i s h hm
      have hi : i < p.length := by omega
      have c1 : (i : Int) < (p.length : Int) := by omega
      have c2 : (0 : Int) ≤ (i : Int) := by omega
      have c3 : (i : Int) < (s.length : Int) := by have := hm.1; omega
      have h3 := w64s i (by omega)
      refine ev_succ ?_
      simp only [spec_CyclesOf.l0, c1, if_true]
      by_cases hs : s.getD i false = true
      · have ho := mem_flat.mp ((hm.2 i hi).mp hs)
        refine ev_succ ?_
        have d0 : ¬ ((([] : List Int).length : Int) > 0) := by simp
        simp only [spec_CyclesOf.l1, c2, c3, rdOf_nat, hs, if_true, d0, if_false, h3]
        have := ih (i + 1) s (by omega) (by rw [cyc_succ_old ho]; exact hm)
        rw [cyc_succ_old ho] at this
        exact this
      · have hnew : ¬ ∃ c ∈ cyc p i, i ∈ c := fun h => hs ((hm.2 i hi).mpr (mem_flat.mpr h))
        have G : ∀ (e m : Nat) (t : List Bool), m + e = per p i → Marks p.length t ((cyc p i).flatten ++ orbTo p i m) → Ev (fun k => spec_CyclesOf.l1 k (I p) (I2 (cyc p i)) t (I (orbTo p i m)) ((itr p m i : Nat) : Int) (p.length : Int) (i : Int)) (I2 (cycles p)) := by
          intro e
          induction e with
          | zero =>
            intro m t he ht
            obtain rfl : m = per p i := by omega
            refine ev_succ ?_
            have hx := itr_lt hp (per p i) hi
            have hper := per_pos p i
            have d1 : (0 : Int) ≤ ((itr p (per p i) i : Nat) : Int) := by omega
            have d2 : ((itr p (per p i) i : Nat) : Int) < (t.length : Int) := by have := ht.1; omega
            have d3 := (ht.2 _ hx).mpr (cyc_shut hp hi)
            have d4 : (I2 (cyc p i)).length < 5864062014805 := by rw [I2_len]; have := cyc_len p i; omega
            have d0 : ((I (orbTo p i (per p i))).length : Int) > 0 := by rw [I_len, orbTo_len]; omega
            simp only [spec_CyclesOf.l1, d1, d2, rdOf_nat, d3, d4, d0, if_true, h3]
            have := ih (i + 1) t (by omega) (by rw [cyc_succ_new hnew]; simpa [orb] using ht)
            rw [cyc_succ_new hnew, ← I2_snoc] at this
            exact this
          | succ e ihe =>
            intro m t he ht
            refine ev_succ ?_
            have hx := itr_lt hp m hi
            have hn := cyc_next hp hi hnew (m := m) (by omega)
            have d1 : (0 : Int) ≤ ((itr p m i : Nat) : Int) := by omega
            have d2 : ((itr p m i : Nat) : Int) < (t.length : Int) := by have := ht.1; omega
            have d3 : ¬ t.getD (itr p m i) false = true := fun k => hn ((ht.2 _ hx).mp k)
            have d4 : (I (orbTo p i m)).length < 17592186044416 := by rw [I_len, orbTo_len]; have := (per_spec hp hi).2.1; omega
            have d5 : ((itr p m i : Nat) : Int) < (p.length : Int) := by omega
            simp only [spec_CyclesOf.l1, d1, d2, rdOf_nat, d3, d4, d5, I_len', if_true, if_false, rdI, Int.toNat_natCast, I_snoc, orbTo_snoc]
            have := ihe (m + 1) (t.set (itr p m i) true) (by omega) (by
              have := ht.add hx
              rw [List.append_assoc, orbTo_snoc] at this
              exact this)
            exact this
        have := G (per p i) 0 s (by omega) (by simpa [orbTo] using hm)
        exact this
  exact H p.length 0 _ (by omega) (by simpa [cyc] using marks_rep p.length)
end Go.Proofs.Ytoijcallajegfaa.M
end
section
/- Marks on lists of lists. No conditions. -/
namespace Go.Proofs.Ytoijcallajegfaa.M
set_option linter.unusedVariables false
set_option linter.unusedSimpArgs false
open Go.RowKit Go.Proofs.YtoijcallajegfaaW.PrintWords Go.Proofs.YtoijcallajegfaaW.PrintLast Go.Proofs.YtoijcallajegfaaW.PrintMore Go.Proofs.Ytoijcallajegfaa.A
def totL (xs : List (List Int)) : Nat := (xs.map List.length).sum
theorem getD_mid {α : Type} (p : List α) (x : α) (xs : List α) (d : α) : (p ++ x :: xs).getD p.length d = x := by
  rw [List.getD_eq_getElem?_getD, List.getElem?_append_right (Nat.le_refl _)]
  simp
theorem set_mid {α : Type} (p : List α) (x y : α) (xs : List α) : (p ++ x :: xs).set p.length y = p ++ y :: xs := by
  rw [List.set_append_right _ _ (Nat.le_refl _)]
  simp
end Go.Proofs.Ytoijcallajegfaa.M
end
section
/- Rows: the program and the reference answer alike. No conditions. -/
namespace Go.Proofs.Ytoijcallajegfaa.M
set_option linter.unusedVariables false
set_option linter.unusedSimpArgs false
open Go.RowKit Go.Proofs.YtoijcallajegfaaW.PrintWords Go.Proofs.YtoijcallajegfaaW.PrintLast Go.Proofs.YtoijcallajegfaaW.PrintMore Go.Proofs.Ytoijcallajegfaa.A
theorem cycles_len {p : List Nat} (h24 : p.length ≤ 24) : (cycles p).length ≤ 24 := Nat.le_trans (cyc_len p p.length) h24
theorem cycle_len {p : List Nat} (hp : IsP p) (h24 : p.length ≤ 24) : ∀ c ∈ cycles p, c.length ≤ 24 := by
  intro c hc
  obtain ⟨s, hs, rfl⟩ := cyc_form p p.length c hc
  unfold orb
  rw [orbTo_len]
  have := (per_spec hp hs).2.1
  omega
structure SmallSS (l : List (List Int)) : Prop where
  n : l.length ≤ 24
  m : ∀ x ∈ l, x.length ≤ 24
  t : totL l ≤ 1000
end Go.Proofs.Ytoijcallajegfaa.M
end
section
/- One round about a corner; first places in lists. No conditions. -/
namespace Go.Proofs.Ytoijcallajegfaa.M
set_option linter.unusedVariables false
set_option linter.unusedSimpArgs false
open Go.RowKit Go.Proofs.YtoijcallajegfaaW.PrintWords Go.Proofs.YtoijcallajegfaaW.PrintLast Go.Proofs.YtoijcallajegfaaW.PrintMore Go.Proofs.Ytoijcallajegfaa.A
theorem impl_then {p q : List Nat} (hp : IsP p) (hq : IsP q) (hl : p.length = q.length) (h24 : p.length ≤ 24) : Ev (fun k => impl_ThenPerm.f k (I p) (I q)) (I (thn p q)) := by
  unfold impl_ThenPerm.f
  refine Ev.bind (impl_permOk (I p)) ?_
  have e1 : permB (I p) = true := permB_I.mpr ⟨hp, h24⟩
  have e2 : permB (I q) = true := permB_I.mpr ⟨hq, by omega⟩
  simp only [e1, if_true]
  refine Ev.bind (impl_permOk (I q)) ?_
  have e3 : ((p.length : Int) != (q.length : Int)) = false := by simp [hl]
  simp only [e2, if_true, I_len', e3]
  refine ev_succ ?_
  have h1 : (0 : Int) ≤ (p.length : Int) := by omega
  have h2 : p.length ≤ 35184372088832 := by omega
  simp only [impl_ThenPerm.j0, Bool.false_eq_true, if_false, I_len', h1, h2, if_true, Int.toNat_natCast]
  have H : ∀ (d i : Nat) (c : List Nat), i + d = p.length → c.length = p.length → (∀ j, j < i → g c j = g q (g p j)) → Ev (fun k => impl_ThenPerm.l0 k (I q) (I c) (I p) (p.length : Int) (i : Int)) (I (thn p q)) := by
    intro d
    induction d with
    | zero =>
      intro i c h hc hx
      refine ev_succ ?_
      have h1 : ¬ ((i : Int) < (p.length : Int)) := by omega
      have e : thn p q = c := by
        refine (eq_tab hc (fun j hj => hx j (by omega))).symm
      simp only [impl_ThenPerm.l0, h1, if_false]
      rw [e]
      exact Ev.now _
    | succ d ih =>
      intro i c h hc hx
      refine ev_succ ?_
      have hi : i < p.length := by omega
      have gp := g_lt hp hi
      have c1 : (i : Int) < (p.length : Int) := by omega
      have c2 : (0 : Int) ≤ (i : Int) := by omega
      have c3 : (0 : Int) ≤ ((g p i : Nat) : Int) := by omega
      have c4 : ((g p i : Nat) : Int) < (q.length : Int) := by omega
      have c5 : (i : Int) < (c.length : Int) := by omega
      have h3 := w64s i (by omega)
      simp only [impl_ThenPerm.l0, c1, c2, c3, c4, c5, h3, rdI, I_len', I_set, if_true, Int.toNat_natCast]
      refine ih (i + 1) _ (by omega) (by rw [List.length_set]; exact hc) (fun j hj => ?_)
      rw [g_set (by omega)]
      by_cases e : i = j
      · subst e
        simp
      · rw [if_neg e]
        exact hx j (by omega)
  have := H p.length 0 (List.replicate p.length 0) (by omega) (by simp) (fun j hj => by omega)
  rw [I_rep] at this
  exact this
theorem spec_then2 {p q : List Nat} (hp : ∀ i, i < p.length → g p i < q.length) (h : p.length ≤ 1000) : Ev (fun k => spec_l02Then.f k (I p) (I q)) (I (thn p q)) := by
  unfold spec_l02Then.f
  have H : ∀ (d i : Nat), i + d = p.length → Ev (fun k => spec_l02Then.l0 k (I q) (I (tab i (fun i => g q (g p i)))) (I p) (p.length : Int) (i : Int)) (I (thn p q)) := by
    intro d
    induction d with
    | zero =>
      intro i h
      obtain rfl : i = p.length := by omega
      refine ev_succ ?_
      have h1 : ¬ ((p.length : Int) < (p.length : Int)) := by omega
      simp only [spec_l02Then.l0, h1, if_false]
      exact Ev.now _
    | succ d ih =>
      intro i h
      refine ev_succ ?_
      have hi : i < p.length := by omega
      have gp := hp i hi
      have c1 : (i : Int) < (p.length : Int) := by omega
      have c2 : (0 : Int) ≤ (i : Int) := by omega
      have c3 : (0 : Int) ≤ ((g p i : Nat) : Int) := by omega
      have c4 : ((g p i : Nat) : Int) < (q.length : Int) := by omega
      have c5 : (I (tab i (fun i => g q (g p i)))).length < 17592186044416 := by rw [I_len, tab_len]; omega
      have h3 := w64s i (by omega)
      have e : tab i (fun i => g q (g p i)) ++ [g q (g p i)] = tab (i + 1) (fun i => g q (g p i)) := by unfold tab; rw [List.range_succ]; simp
      simp only [spec_l02Then.l0, c1, c2, c3, c4, c5, h3, rdI, I_len', I_snoc, if_true, e]
      exact ih (i + 1) (by omega)
  simp only [I_len']
  exact H p.length 0 (by omega)
def arnd (r u : List Nat) : List Nat := thn (thn r u) (thn (inv r) (inv u))
theorem arnd_len (r u : List Nat) : (arnd r u).length = r.length := by unfold arnd; rw [thn_len, thn_len]
theorem isP_arnd {r u : List Nat} (hs : Sf r u) : IsP (arnd r u) :=
  isP_thn (isP_thn hs.pr hs.pu hs.eq.symm) (isP_thn (isP_inv hs.pr) (isP_inv hs.pu) (by rw [inv_len, inv_len, hs.eq])) (by rw [thn_len, thn_len, inv_len])
theorem spec_around {r u : List Nat} (hs : Sf r u) : Ev (fun k => spec_l04Around.f k (I r) (I u)) (I (arnd r u)) := by
  have hle := hs.le
  have heq := hs.eq
  unfold spec_l04Around.f
  refine Ev.bind (spec_then2 (fun i hi => by have := g_lt hs.pr hi; omega) (by omega)) ?_
  refine Ev.bind (spec_inv hs.pr hs.le) (Ev.bind (spec_inv hs.pu (by omega)) ?_)
  refine Ev.bind (spec_then2 (fun i hi => by have := g_lt (isP_inv hs.pr) hi; rw [inv_len] at this hi ⊢; omega) (by rw [inv_len]; omega)) ?_
  refine Ev.bind (spec_then2 (fun i hi => by have := g_lt (isP_thn hs.pr hs.pu heq.symm) hi; rw [thn_len] at this hi ⊢; rw [inv_len]; omega) (by rw [thn_len]; omega)) ?_
  exact Ev.now _
theorem impl_around {r u : List Nat} (hs : Sf r u) : Ev (fun k => impl_AroundOf.f k (I r) (I u)) (I (arnd r u)) := by
  have hle := hs.le
  have heq := hs.eq
  unfold impl_AroundOf.f
  refine Ev.bind (impl_surf _ _) ?_
  rw [surfB_I.mpr hs]
  simp only [if_true]
  refine Ev.bind (impl_then hs.pr hs.pu heq.symm hs.le) ?_
  refine Ev.bind (impl_inv hs.pr hs.le) (Ev.bind (impl_inv hs.pu (by omega)) ?_)
  refine Ev.bind (impl_then (isP_inv hs.pr) (isP_inv hs.pu) (by rw [inv_len, inv_len, heq]) (by rw [inv_len]; omega)) ?_
  refine Ev.bind (impl_then (isP_thn hs.pr hs.pu heq.symm) (isP_thn (isP_inv hs.pr) (isP_inv hs.pu) (by rw [inv_len, inv_len, heq])) (by rw [thn_len, thn_len, inv_len]) (by rw [thn_len]; omega)) ?_
  exact Ev.now _
theorem rdL_mid (a : List (List Nat)) (c : List Nat) (b : List (List Nat)) : rd_L5 (I2 (a ++ c :: b)) (a.length : Int) = I c := by
  unfold rd_L5 I2
  rw [Int.toNat_natCast, List.map_append, List.map_cons, ← List.length_map (f := I)]
  exact getD_mid _ _ _ _
theorem rdL_I2 (l : List (List Nat)) (i : Nat) (h : i < l.length) : rd_L5 (I2 l) (i : Int) = I (l[i]) := by
  unfold rd_L5 I2
  rw [Int.toNat_natCast, List.getD_eq_getElem?_getD, List.getElem?_map, List.getElem?_eq_getElem h]
  rfl
end Go.Proofs.Ytoijcallajegfaa.M
end
section
/- Words of letters: the program and the reference act alike. No conditions. -/
namespace Go.Proofs.Ytoijcallajegfaa.M
set_option linter.unusedVariables false
set_option linter.unusedSimpArgs false
open Go.RowKit Go.Proofs.YtoijcallajegfaaW.PrintWords Go.Proofs.YtoijcallajegfaaW.PrintLast Go.Proofs.YtoijcallajegfaaW.PrintMore Go.Proofs.Ytoijcallajegfaa.A
def lt (c : Int) (s : List Nat × List Nat) : List Nat × List Nat := if c = 84 then (s.1, thn (inv s.1) s.2) else if c = 116 then (s.1, thn s.1 s.2) else if c = 83 then (inv s.2, s.1) else (s.2, inv s.1)
end Go.Proofs.Ytoijcallajegfaa.M
end
section
/- Surfaces that are alike; surfaces that a word keeps. No conditions. -/
namespace Go.Proofs.Ytoijcallajegfaa.M
set_option linter.unusedVariables false
set_option linter.unusedSimpArgs false
open Go.RowKit Go.Proofs.YtoijcallajegfaaW.PrintWords Go.Proofs.YtoijcallajegfaaW.PrintLast Go.Proofs.YtoijcallajegfaaW.PrintMore Go.Proofs.Ytoijcallajegfaa.A
theorem spec_same (a b : List Nat × List Nat) (h1 : a.1.length ≤ 1000000) (h2 : a.2.length ≤ 1000000) : Ev (fun k => spec_SameSurface.f k (I a.1) (I a.2) (I b.1) (I b.2)) (decide (a = b)) := by
  unfold spec_SameSurface.f
  refine Ev.bind (sameList_nat a.1 b.1 (by omega)) ?_
  by_cases h : a.1 = b.1
  · have e : decide (a = b) = decide (a.2 = b.2) := by
      rw [decide_eq_decide, Prod.ext_iff]
      simp [h]
    rw [e]
    simp only [h, decide_true, if_true]
    exact Ev.bind (sameList_nat a.2 b.2 (by omega)) (Ev.now _)
  · have e : decide (a = b) = false := by
      rw [decide_eq_false_iff_not]
      intro e
      exact h (by rw [e])
    rw [e]
    simp only [h, decide_false, Bool.false_eq_true, if_false]
    exact Ev.now _
end Go.Proofs.Ytoijcallajegfaa.M
end
section
/- All surfaces with few squares: the program and the reference list them alike. No conditions. -/
namespace Go.Proofs.Ytoijcallajegfaa.M
set_option linter.unusedVariables false
set_option linter.unusedSimpArgs false
open Go.RowKit Go.Proofs.YtoijcallajegfaaW.PrintWords Go.Proofs.YtoijcallajegfaaW.PrintLast Go.Proofs.YtoijcallajegfaaW.PrintMore Go.Proofs.Ytoijcallajegfaa.A
def permN (n : Nat) : List (List Nat) := (List.range n).foldl (fun out _ => (out.map (fun p => ((List.range n).filter (fun x => decide (x ∉ p))).map (fun x => p ++ [x]))).flatten) [[]]
theorem allPerms_tab : impl_allPerms.f 500 ((1 : Nat) : Int) = some (I2 (permN 1)) ∧ impl_allPerms.f 500 ((2 : Nat) : Int) = some (I2 (permN 2)) ∧ impl_allPerms.f 500 ((3 : Nat) : Int) = some (I2 (permN 3)) ∧ impl_allPerms.f 500 ((4 : Nat) : Int) = some (I2 (permN 4)) := by decide +kernel
theorem l10Perms_tab : spec_l10Perms.f 500 ((1 : Nat) : Int) = some (I2 (permN 1)) ∧ spec_l10Perms.f 500 ((2 : Nat) : Int) = some (I2 (permN 2)) ∧ spec_l10Perms.f 500 ((3 : Nat) : Int) = some (I2 (permN 3)) ∧ spec_l10Perms.f 500 ((4 : Nat) : Int) = some (I2 (permN 4)) := by decide +kernel
theorem four_cases {n : Nat} (h1 : 1 ≤ n) (h4 : n ≤ 4) : n = 1 ∨ n = 2 ∨ n = 3 ∨ n = 4 := by omega
theorem allPerms_ev {n : Nat} (h1 : 1 ≤ n) (h4 : n ≤ 4) : Ev (fun k => impl_allPerms.f k (n : Int)) (I2 (permN n)) := by
  rcases four_cases h1 h4 with rfl | rfl | rfl | rfl
  · exact Ev.of (impl_allPerms.mono _) allPerms_tab.1
  · exact Ev.of (impl_allPerms.mono _) allPerms_tab.2.1
  · exact Ev.of (impl_allPerms.mono _) allPerms_tab.2.2.1
  · exact Ev.of (impl_allPerms.mono _) allPerms_tab.2.2.2
theorem l10Perms_ev {n : Nat} (h1 : 1 ≤ n) (h4 : n ≤ 4) : Ev (fun k => spec_l10Perms.f k (n : Int)) (I2 (permN n)) := by
  rcases four_cases h1 h4 with rfl | rfl | rfl | rfl
  · exact Ev.of (spec_l10Perms.mono _) l10Perms_tab.1
  · exact Ev.of (spec_l10Perms.mono _) l10Perms_tab.2.1
  · exact Ev.of (spec_l10Perms.mono _) l10Perms_tab.2.2.1
  · exact Ev.of (spec_l10Perms.mono _) l10Perms_tab.2.2.2
theorem permN_tab : ∀ n : Fin 5, 1 ≤ n.val → (permN n.val).length ≤ 24 ∧ ∀ p ∈ permN n.val, p.length = n.val := by decide +kernel
theorem permN_len {n : Nat} (h1 : 1 ≤ n) (h4 : n ≤ 4) : (permN n).length ≤ 24 ∧ ∀ p ∈ permN n, p.length = n := permN_tab ⟨n, by omega⟩ h1
def LS (l : List (List Nat × List Nat)) : List S33 := l.map ofN
theorem LS_len (l : List (List Nat × List Nat)) : (LS l).length = l.length := by simp [LS]
theorem LS_app (a b : List (List Nat × List Nat)) : LS (a ++ b) = LS a ++ LS b := by simp [LS]
theorem LS_mid (p : List (List Nat × List Nat)) (x : List Nat × List Nat) (xs : List (List Nat × List Nat)) : rd_T33 (LS (p ++ x :: xs)) (p.length : Int) = ⟨I x.1, I x.2⟩ := by
  unfold rd_T33
  rw [Int.toNat_natCast, LS_app]
  have := getD_mid (LS p) (ofN x) (LS xs) z33
  rw [LS_len] at this
  exact this
theorem insert_ev {n : Nat} (hn : n ≤ 1000000) {s : List Nat × List Nat} (hs : s.1.length = n ∧ s.2.length = n) (l : List (List Nat × List Nat)) (hl : ∀ x ∈ l, x.1.length = n ∧ x.2.length = n) (hlen : l.length ≤ 1000000) : Ev (fun k => spec_l10Insert.f k (LS l) (I s.1) (I s.2)) (LS (insS l s)) := by
  unfold spec_l10Insert.f
  have D : ∀ (rest p o : List (List Nat × List Nat)), p.length + rest.length = l.length → p ++ rest = l → o.length ≤ p.length + 1 → Ev (fun k => spec_l10Insert.l0 k (LS o) true (LS l) ((LS l).length : Int) (p.length : Int) (I s.1) (I s.2)) (LS (o ++ rest)) := by
    intro rest
    induction rest with
    | nil =>
      intro p o hp e ho
      refine ev_succ ?_
      have h1 : ¬ ((p.length : Int) < ((LS l).length : Int)) := by rw [LS_len]; simp at hp; omega
      simp only [spec_l10Insert.l0, h1, if_false, if_true, List.append_nil]
      exact Ev.now _
    | cons x rest ih =>
      intro p o hp e ho
      rw [List.length_cons] at hp
      refine ev_succ ?_
      have h1 : ((p.length : Int) < ((LS l).length : Int)) := by rw [LS_len]; omega
      have h2 : (0 : Int) ≤ (p.length : Int) := by omega
      have h3 := w64s p.length (by omega)
      have h4 : rd_T33 (LS l) (p.length : Int) = ⟨I x.1, I x.2⟩ := by rw [← e]; exact LS_mid p x rest
      have h5 : (LS o).length < 2932031007402 := by rw [LS_len]; omega
      have hx := hl x (by rw [← e]; simp)
      have e2 : LS o ++ [(⟨I x.1, I x.2⟩ : S33)] = LS (o ++ [x]) := by rw [LS_app]; rfl
      have key := ih (p ++ [x]) (o ++ [x]) (by simp; omega) (by rw [← e]; simp) (by simp; omega)
      have e3 : ((p ++ [x]).length : Int) = ((p.length + 1 : Nat) : Int) := by simp
      rw [e3] at key
      have e4 : o ++ [x] ++ rest = o ++ x :: rest := by simp
      rw [e4] at key
      simp only [spec_l10Insert.l0, h1, h2, h4, if_true]
      refine Ev.bind (spec_same x s (by omega) (by omega)) ?_
      by_cases hxs : x = s
      · simp only [hxs, decide_true, if_true, h5, h3]
        rw [hxs] at e2 key
        rw [e2]
        exact key
      · simp only [hxs, decide_false, Bool.false_eq_true, if_false, if_true, h5, h3]
        rw [e2]
        exact key
  have H : ∀ (rest p : List (List Nat × List Nat)), p.length + rest.length = l.length → p ++ rest = l → Ev (fun k => spec_l10Insert.l0 k (LS p) false (LS l) ((LS l).length : Int) (p.length : Int) (I s.1) (I s.2)) (LS (p ++ insS rest s)) := by
    intro rest
    induction rest with
    | nil =>
      intro p hp e
      refine ev_succ ?_
      have h1 : ¬ ((p.length : Int) < ((LS l).length : Int)) := by rw [LS_len]; simp at hp; omega
      have h5 : (LS p).length < 2932031007402 := by rw [LS_len]; simp at hp; omega
      simp only [spec_l10Insert.l0, h1, if_false, Bool.false_eq_true, h5, if_true]
      have e2 : LS p ++ [(⟨I s.1, I s.2⟩ : S33)] = LS (p ++ insS [] s) := by rw [LS_app]; rfl
      rw [e2]
      exact Ev.now _
    | cons x rest ih =>
      intro p hp e
      rw [List.length_cons] at hp
      refine ev_succ ?_
      have h1 : ((p.length : Int) < ((LS l).length : Int)) := by rw [LS_len]; omega
      have h2 : (0 : Int) ≤ (p.length : Int) := by omega
      have h3 := w64s p.length (by omega)
      have h4 : rd_T33 (LS l) (p.length : Int) = ⟨I x.1, I x.2⟩ := by rw [← e]; exact LS_mid p x rest
      have h5 : (LS p).length < 2932031007402 := by rw [LS_len]; omega
      have hx := hl x (by rw [← e]; simp)
      have e2 : LS p ++ [(⟨I x.1, I x.2⟩ : S33)] = LS (p ++ [x]) := by rw [LS_app]; rfl
      have e3 : ((p ++ [x]).length : Int) = ((p.length + 1 : Nat) : Int) := by simp
      have d1 := D rest (p ++ [x]) (p ++ [x]) (by simp; omega) (by rw [← e]; simp) (by simp)
      rw [e3] at d1
      simp only [spec_l10Insert.l0, h1, h2, h4, if_true]
      refine Ev.bind (spec_same x s (by omega) (by omega)) ?_
      by_cases hxs : x = s
      · have e4 : p ++ insS (x :: rest) s = p ++ [x] ++ rest := by
          unfold insS
          rw [if_pos hxs]
          simp
        rw [e4]
        simp only [hxs, decide_true, if_true, h5, h3]
        rw [hxs] at d1 e2
        rw [e2]
        exact d1
      · simp only [hxs, decide_false, Bool.false_eq_true, if_false]
        refine Ev.bind (spec_before s x (by omega) (by omega) (by omega) (by omega)) ?_
        by_cases hb : cmpS s x < 0
        · have h6 : (LS p ++ [(⟨I s.1, I s.2⟩ : S33)]).length < 2932031007402 := by rw [List.length_append, LS_len]; simp; omega
          simp only [hb, decide_true, if_true, h5, Option.bind_some, h6, h3]
          have e4 : p ++ insS (x :: rest) s = p ++ [s] ++ [x] ++ rest := by
            unfold insS
            rw [if_neg hxs, if_pos hb]
            simp
          have e5 : LS p ++ [(⟨I s.1, I s.2⟩ : S33)] ++ [⟨I x.1, I x.2⟩] = LS (p ++ [s] ++ [x]) := by rw [LS_app, LS_app]; rfl
          have d2 := D rest (p ++ [x]) (p ++ [s] ++ [x]) (by simp; omega) (by rw [← e]; simp) (by simp)
          rw [e3] at d2
          rw [e4, e5]
          exact d2
        · simp only [hb, decide_false, Bool.false_eq_true, if_false, h5, if_true, h3]
          have key := ih (p ++ [x]) (by simp; omega) (by rw [← e]; simp)
          rw [e3] at key
          have e4 : p ++ insS (x :: rest) s = p ++ [x] ++ insS rest s := by
            conv => lhs; unfold insS
            rw [if_neg hxs, if_neg hb]
            simp
          rw [e4, e2]
          exact key
  exact H l [] (by simp) rfl
def pr (p q : List Nat) : List (List Nat × List Nat) := if surfB (I p) (I q) = true then [canS p q] else []
theorem pr_len (p q : List Nat) : (pr p q).length ≤ 1 := by unfold pr; split <;> simp
theorem pr_mem {p q : List Nat} {x : List Nat × List Nat} (h : x ∈ pr p q) : x.1.length = p.length ∧ x.2.length = q.length := by
  unfold pr at h
  split at h
  · rw [List.mem_singleton.1 h]; exact canK_len _
  · cases h
theorem pr_no {p q : List Nat} (h : ¬ surfB (I p) (I q) = true) : pr p q = [] := by unfold pr; rw [if_neg h]
theorem pr_yes {p q : List Nat} (h : surfB (I p) (I q) = true) : pr p q = [canS p q] := by unfold pr; rw [if_pos h]
def prs (P : List (List Nat)) (p : List Nat) : List (List Nat × List Nat) := P.flatMap (pr p)
def pairs (P R : List (List Nat)) : List (List Nat × List Nat) := R.flatMap (prs P)
theorem flatM_len {α β : Type} (f : α → List β) (n : Nat) (h : ∀ x, (f x).length ≤ n) : ∀ l : List α, (l.flatMap f).length ≤ l.length * n
  | [] => by simp
  | x :: l => by
    have := flatM_len f n h l
    have := h x
    rw [List.flatMap_cons, List.length_append, List.length_cons, Nat.succ_mul]
    omega
theorem prs_len (P : List (List Nat)) (p : List Nat) : (prs P p).length ≤ P.length := by
  have := flatM_len (pr p) 1 (pr_len p) P
  unfold prs; omega
theorem LS_ok {n : Nat} (hn : n ≤ 1000000) {l : List (List Nat × List Nat)} (h : ∀ x ∈ l, x.1.length = n ∧ x.2.length = n) : ∀ x ∈ LS l, okS x := by
  intro x hx
  obtain ⟨y, hy, rfl⟩ := List.mem_map.1 hx
  have := h y hy
  exact ⟨I_NN (by omega), I_NN (by omega)⟩
theorem LS_toN (l : List (List Nat × List Nat)) : (LS l).map toN = l := by
  unfold LS
  rw [List.map_map]
  conv => rhs; rw [← List.map_id l]
  exact List.map_congr_left (fun x _ => toN_ofN x)
theorem sortSurf_f {n : Nat} (hn : n ≤ 1000000) {l : List (List Nat × List Nat)} (h : ∀ x ∈ l, x.1.length = n ∧ x.2.length = n) (hl : l.length ≤ 1000000) : impl_sortSurfaces.f (LS l) = some (LS (insAll [] l)) := by
  unfold impl_sortSurfaces.f
  rw [if_pos ⟨LS_ok hn h, by rw [LS_len]; omega⟩, LS_toN, sortS_ins]
  rfl
theorem rdL_P {P pre rest : List (List Nat)} {p : List Nat} (e : pre ++ p :: rest = P) : rd_L5 (I2 P) (pre.length : Int) = I p := by rw [← e]; exact rdL_mid pre p rest
def surfN (n : Nat) : List (List Nat × List Nat) := insAll [] (pairs (permN n) (permN n))
theorem impl_with {n : Nat} (h1 : 1 ≤ n) (h4 : n ≤ 4) : Ev (fun k => impl_SurfacesWith.f k (n : Int)) (LS (surfN n)) := by
  obtain ⟨hP, hQ⟩ := permN_len h1 h4
  have hA := allPerms_ev h1 h4
  unfold impl_SurfacesWith.f
  have c1 : ¬ ((n : Int) < 1) := by omega
  have c2 : ¬ ((n : Int) > 4) := by omega
  simp only [c1, c2, if_false, decide_false]
  refine ev_succ ?_
  simp only [impl_SurfacesWith.j0, Bool.false_eq_true, if_false]
  refine Ev.bind hA ?_
  unfold surfN
  generalize permN n = P at hP hQ hA
  have H1 : ∀ (p : List Nat) (x20 : Int) (R : List S33) (rest pre : List (List Nat)) (acc : List (List Nat × List Nat)), pre ++ rest = P → acc.length + rest.length ≤ 100000 →
      Ev (fun k => impl_SurfacesWith.l0 k (n : Int) (LS (acc ++ rest.flatMap (pr p))) (I2 P) ((I2 P).length : Int) (wrap64 (x20 + 1))) R → Ev (fun k => impl_SurfacesWith.l1 k (n : Int) (LS acc) (I p) (I2 P) ((I2 P).length : Int) x20 (I2 P) ((I2 P).length : Int) (pre.length : Int)) R := by
    intro p x20 R rest
    induction rest with
    | nil =>
      intro pre acc e hl hR
      refine ev_succ ?_
      rw [List.append_nil] at e
      have d1 : ¬ ((pre.length : Int) < ((I2 P).length : Int)) := by rw [I2_len, e]; omega
      simp only [impl_SurfacesWith.l1, d1, if_false]
      simpa using hR
    | cons q rest ih =>
      intro pre acc e hl hR
      rw [List.length_cons] at hl
      have hlen : P.length = pre.length + (rest.length + 1) := by rw [← e]; simp
      refine ev_succ ?_
      have d1 : ((pre.length : Int) < ((I2 P).length : Int)) := by rw [I2_len]; omega
      have d2 : (0 : Int) ≤ (pre.length : Int) := by omega
      have d3 := w64s pre.length (by omega)
      have d4 := rdL_P e
      have d5 : (LS acc).length < 2932031007402 := by rw [LS_len]; omega
      have e3 : ((pre ++ [q]).length : Int) = ((pre.length + 1 : Nat) : Int) := by simp
      have hpl := pr_len p q
      have key := ih (pre ++ [q]) (acc ++ pr p q) (by rw [← e]; simp) (by rw [List.length_append]; omega) (by rw [List.append_assoc, ← List.flatMap_cons]; exact hR)
      rw [e3] at key
      simp only [impl_SurfacesWith.l1, d1, d2, d4, if_true]
      by_cases hb : surfB (I p) (I q) = true
      · refine Ev.bind (impl_canon (surfB_I.1 hb)) ?_
        simp only [d5, if_true, d3]
        rw [pr_yes hb, LS_app] at key
        exact key
      · refine Ev.bind (impl_canon_no hb) ?_
        simp only [Bool.false_eq_true, if_false, d3]
        rw [pr_no hb, List.append_nil] at key
        exact key
  have H0 : ∀ (rest pre : List (List Nat)) (acc : List (List Nat × List Nat)), pre ++ rest = P → acc.length + rest.length * 24 ≤ 10000 → (∀ x ∈ acc, x.1.length = n ∧ x.2.length = n) →
      Ev (fun k => impl_SurfacesWith.l0 k (n : Int) (LS acc) (I2 P) ((I2 P).length : Int) (pre.length : Int)) (LS (insAll [] (acc ++ pairs P rest))) := by
    intro rest
    induction rest with
    | nil =>
      intro pre acc e hl hx
      refine ev_succ ?_
      rw [List.append_nil] at e
      have d1 : ¬ ((pre.length : Int) < ((I2 P).length : Int)) := by rw [I2_len, e]; omega
      have d2 := sortSurf_f (by omega) hx (by simp at hl; omega)
      simp only [impl_SurfacesWith.l0, d1, if_false, d2, Option.bind_some]
      have e2 : acc ++ pairs P [] = acc := by simp [pairs]
      rw [e2]
      exact Ev.now _
    | cons p rest ih =>
      intro pre acc e hl hx
      rw [List.length_cons] at hl
      have hlen : P.length = pre.length + (rest.length + 1) := by rw [← e]; simp
      refine ev_succ ?_
      have d1 : ((pre.length : Int) < ((I2 P).length : Int)) := by rw [I2_len]; omega
      have d2 : (0 : Int) ≤ (pre.length : Int) := by omega
      have d3 := w64s pre.length (by omega)
      have d4 := rdL_P e
      simp only [impl_SurfacesWith.l0, d1, d2, d4, if_true]
      refine Ev.bind hA ?_
      have e3 : ((pre ++ [p]).length : Int) = ((pre.length + 1 : Nat) : Int) := by simp
      have hpl := prs_len P p
      have hp : p.length = n := hQ p (by rw [← e]; simp)
      have hx2 : ∀ x ∈ acc ++ prs P p, x.1.length = n ∧ x.2.length = n := by
        intro x hm
        rcases List.mem_append.1 hm with hm | hm
        · exact hx x hm
        · obtain ⟨q, hq, hxq⟩ := List.mem_flatMap.1 hm
          obtain ⟨a1, a2⟩ := pr_mem hxq
          exact ⟨a1.trans hp, a2.trans (hQ q hq)⟩
      have key := ih (pre ++ [p]) (acc ++ prs P p) (by rw [← e]; simp) (by rw [List.length_append]; omega) hx2
      rw [e3, List.append_assoc] at key
      refine H1 p (pre.length : Int) _ P [] acc (by simp) (by omega) ?_
      rw [d3]
      exact key
  have := H0 P [] [] (by simp) (by simp; omega) (by simp)
  rw [List.nil_append] at this
  exact this
theorem insAll_app (l a b : List (List Nat × List Nat)) : insAll l (a ++ b) = insAll (insAll l a) b := List.foldl_append
theorem insS_len (l : List (List Nat × List Nat)) (s : List Nat × List Nat) : (insS l s).length ≤ l.length + 1 := by
  induction l with
  | nil => simp [insS]
  | cons x l ih =>
    unfold insS
    split
    · simp
    · split
      · simp
      · simpa using ih
theorem insAll_len : ∀ (ss l : List (List Nat × List Nat)), (insAll l ss).length ≤ l.length + ss.length
  | [], l => by simp [insAll]
  | s :: ss, l => by
    have := insAll_len ss (insS l s)
    have := insS_len l s
    show (insAll (insS l s) ss).length ≤ _
    rw [List.length_cons]
    omega
theorem spec_in14 (n : Int) : spec_l01In.f n 1 4 = some (decide (1 ≤ n) && decide (n ≤ 4)) := by
  unfold spec_l01In.f
  by_cases h1 : 1 ≤ n <;> by_cases h2 : n ≤ 4 <;> simp [h1, h2]
theorem spec_with {n : Nat} (h1 : 1 ≤ n) (h4 : n ≤ 4) : Ev (fun k => spec_SurfacesWith.f k (n : Int)) (LS (surfN n)) := by
  obtain ⟨hP, hQ⟩ := permN_len h1 h4
  have hA := l10Perms_ev h1 h4
  unfold spec_SurfacesWith.f
  have c0 : (decide ((1 : Int) ≤ (n : Int)) && decide ((n : Int) ≤ 4)) = true := by
    rw [Bool.and_eq_true]
    exact ⟨decide_eq_true (by omega), decide_eq_true (by omega)⟩
  rw [spec_in14, c0]
  simp only [Option.bind_some, if_true]
  refine Ev.bind hA ?_
  unfold surfN
  generalize permN n = P at hP hQ hA
  have H1 : ∀ (p : List Nat), p.length = n → ∀ (x18 : Int) (R : List S33) (rest pre : List (List Nat)) (acc : List (List Nat × List Nat)), pre ++ rest = P → acc.length + rest.length ≤ 100000 → (∀ x ∈ acc, x.1.length = n ∧ x.2.length = n) →
      Ev (fun k => spec_SurfacesWith.l0 k (LS (insAll acc (rest.flatMap (pr p)))) (I2 P) (I2 P) ((I2 P).length : Int) (wrap64 (x18 + 1))) R → Ev (fun k => spec_SurfacesWith.l1 k (LS acc) (I2 P) (I p) (I2 P) ((I2 P).length : Int) x18 (I2 P) ((I2 P).length : Int) (pre.length : Int)) R := by
    intro p hp x18 R rest
    induction rest with
    | nil =>
      intro pre acc e hl hx hR
      refine ev_succ ?_
      rw [List.append_nil] at e
      have d1 : ¬ ((pre.length : Int) < ((I2 P).length : Int)) := by rw [I2_len, e]; omega
      simp only [spec_SurfacesWith.l1, d1, if_false]
      exact hR
    | cons q rest ih =>
      intro pre acc e hl hx hR
      rw [List.length_cons] at hl
      have hlen : P.length = pre.length + (rest.length + 1) := by rw [← e]; simp
      have hq : q.length = n := hQ q (by rw [← e]; simp)
      refine ev_succ ?_
      have d1 : ((pre.length : Int) < ((I2 P).length : Int)) := by rw [I2_len]; omega
      have d2 : (0 : Int) ≤ (pre.length : Int) := by omega
      have d3 := w64s pre.length (by omega)
      have d4 := rdL_P e
      have e3 : ((pre ++ [q]).length : Int) = ((pre.length + 1 : Nat) : Int) := by simp
      have hpl := pr_len p q
      have hil := insAll_len (pr p q) acc
      have hx2 : ∀ x ∈ insAll acc (pr p q), x.1.length = n ∧ x.2.length = n := by
        intro x hm
        rcases (mem_insAll _ _ _).1 hm with hm | hm
        · exact hx x hm
        · obtain ⟨a1, a2⟩ := pr_mem hm
          exact ⟨a1.trans hp, a2.trans hq⟩
      have key := ih (pre ++ [q]) (insAll acc (pr p q)) (by rw [← e]; simp) (by omega) hx2 (by rw [← insAll_app, ← List.flatMap_cons]; exact hR)
      rw [e3] at key
      simp only [spec_SurfacesWith.l1, d1, d2, d4, if_true]
      refine Ev.bind (spec_surf _ _) ?_
      by_cases hb : surfB (I p) (I q) = true
      · simp only [hb, if_true]
        refine Ev.bind (spec_canon (surfB_I.1 hb)) ?_
        have hc : (canS p q).1.length = n ∧ (canS p q).2.length = n := by
          obtain ⟨a1, a2⟩ := canK_len (r := p) (u := q) (p.length - 1)
          exact ⟨a1.trans hp, a2.trans hq⟩
        refine Ev.bind (insert_ev (by omega) hc acc hx (by omega)) ?_
        rw [pr_yes hb] at key
        simp only [d3]
        exact key
      · simp only [hb, Bool.false_eq_true, if_false, d3]
        rw [pr_no hb] at key
        exact key
  have H0 : ∀ (rest pre : List (List Nat)) (acc : List (List Nat × List Nat)), pre ++ rest = P → acc.length + rest.length * 24 ≤ 10000 → (∀ x ∈ acc, x.1.length = n ∧ x.2.length = n) →
      Ev (fun k => spec_SurfacesWith.l0 k (LS acc) (I2 P) (I2 P) ((I2 P).length : Int) (pre.length : Int)) (LS (insAll acc (pairs P rest))) := by
    intro rest
    induction rest with
    | nil =>
      intro pre acc e hl hx
      refine ev_succ ?_
      rw [List.append_nil] at e
      have d1 : ¬ ((pre.length : Int) < ((I2 P).length : Int)) := by rw [I2_len, e]; omega
      simp only [spec_SurfacesWith.l0, d1, if_false]
      exact Ev.now _
    | cons p rest ih =>
      intro pre acc e hl hx
      rw [List.length_cons] at hl
      have hlen : P.length = pre.length + (rest.length + 1) := by rw [← e]; simp
      refine ev_succ ?_
      have d1 : ((pre.length : Int) < ((I2 P).length : Int)) := by rw [I2_len]; omega
      have d2 : (0 : Int) ≤ (pre.length : Int) := by omega
      have d3 := w64s pre.length (by omega)
      have d4 := rdL_P e
      simp only [spec_SurfacesWith.l0, d1, d2, d4, if_true]
      have e3 : ((pre ++ [p]).length : Int) = ((pre.length + 1 : Nat) : Int) := by simp
      have hpl := prs_len P p
      have hil := insAll_len (prs P p) acc
      have hp : p.length = n := hQ p (by rw [← e]; simp)
      have hx2 : ∀ x ∈ insAll acc (prs P p), x.1.length = n ∧ x.2.length = n := by
        intro x hm
        rcases (mem_insAll _ _ _).1 hm with hm | hm
        · exact hx x hm
        · obtain ⟨q, hq, hxq⟩ := List.mem_flatMap.1 hm
          obtain ⟨a1, a2⟩ := pr_mem hxq
          exact ⟨a1.trans hp, a2.trans (hQ q hq)⟩
      have key := ih (pre ++ [p]) (insAll acc (prs P p)) (by rw [← e]; simp) (by omega) hx2
      rw [e3, ← insAll_app] at key
      refine H1 p hp (pre.length : Int) _ P [] acc (by simp) (by omega) hx ?_
      rw [d3]
      exact key
  exact H0 P [] [] (by simp) (by simp; omega) (by simp)
end Go.Proofs.Ytoijcallajegfaa.M
end
section
/- Plain mathematics: surfaces that are alike by renaming. No conditions. -/
namespace Go.Proofs.Ytoijcallajegfaa.M
set_option linter.unusedVariables false
set_option linter.unusedSimpArgs false
structure Is (s t : List Nat × List Nat) (f : Nat → Nat) : Prop where
  len : t.1.length = s.1.length
  lt : ∀ x, x < s.1.length → f x < s.1.length
  inj : ∀ x y, x < s.1.length → y < s.1.length → f x = f y → x = y
  r : ∀ x, x < s.1.length → f (g s.1 x) = g t.1 (f x)
  u : ∀ x, x < s.1.length → f (g s.2 x) = g t.2 (f x)
theorem Sf.gr {r u : List Nat} (hs : Sf r u) {x : Nat} (h : x < r.length) : g r x < r.length := g_lt hs.pr h
theorem Sf.gu {r u : List Nat} (hs : Sf r u) {x : Nat} (h : x < r.length) : g u x < r.length := by
  have := g_lt hs.pu (i := x) (by rw [hs.eq]; exact h)
  rw [hs.eq] at this
  exact this
theorem Sf.ir {r u : List Nat} (hs : Sf r u) {x : Nat} (h : x < r.length) : ix r x < r.length := ix_lt hs.pr h
theorem Sf.iu {r u : List Nat} (hs : Sf r u) {x : Nat} (h : x < r.length) : ix u x < r.length := by
  have := ix_lt hs.pu (x := x) (by rw [hs.eq]; exact h)
  rw [hs.eq] at this
  exact this
theorem Is.refl (s : List Nat × List Nat) : Is s s (fun x => x) := ⟨rfl, fun _ h => h, fun _ _ _ _ h => h, fun _ _ => rfl, fun _ _ => rfl⟩
theorem Is.trans {s t v : List Nat × List Nat} {f h : Nat → Nat} (a : Is s t f) (b : Is t v h) : Is s v (fun x => h (f x)) where
  len := b.len.trans a.len
  lt x hx := by have := b.lt (f x) (by rw [a.len]; exact a.lt x hx); rw [a.len] at this; exact this
  inj x y hx hy e := a.inj x y hx hy (b.inj _ _ (by rw [a.len]; exact a.lt x hx) (by rw [a.len]; exact a.lt y hy) e)
  r x hx := by show h (f (g s.1 x)) = _; rw [a.r x hx, b.r _ (by rw [a.len]; exact a.lt x hx)]
  u x hx := by show h (f (g s.2 x)) = _; rw [a.u x hx, b.u _ (by rw [a.len]; exact a.lt x hx)]
def bk (n : Nat) (f : Nat → Nat) (y : Nat) : Nat := ix (tab n f) y
theorem bk_lt {n : Nat} {f : Nat → Nat} (h1 : ∀ x, x < n → f x < n) (h2 : ∀ x y, x < n → y < n → f x = f y → x = y) {y : Nat} (hy : y < n) : bk n f y < n := by
  have := ix_lt (isP_tab h1 h2) (x := y) (by rw [tab_len]; exact hy)
  rw [tab_len] at this
  exact this
theorem f_bk {n : Nat} {f : Nat → Nat} (h1 : ∀ x, x < n → f x < n) (h2 : ∀ x y, x < n → y < n → f x = f y → x = y) {y : Nat} (hy : y < n) : f (bk n f y) = y := by
  have h := g_ix (isP_tab h1 h2) (x := y) (by rw [tab_len]; exact hy)
  have hb : ix (tab n f) y < n := bk_lt h1 h2 hy
  rw [g_tab hb] at h
  exact h
theorem bk_f {n : Nat} {f : Nat → Nat} (h1 : ∀ x, x < n → f x < n) (h2 : ∀ x y, x < n → y < n → f x = f y → x = y) {x : Nat} (hx : x < n) : bk n f (f x) = x :=
  h2 _ _ (bk_lt h1 h2 (h1 x hx)) hx (f_bk h1 h2 (h1 x hx))
theorem Is.symm {s t : List Nat × List Nat} {f : Nat → Nat} (hs : Sf s.1 s.2) (a : Is s t f) : Is t s (bk s.1.length f) where
  len := a.len.symm
  lt y hy := by rw [a.len] at hy ⊢; exact bk_lt a.lt a.inj hy
  inj y z hy hz e := by
    rw [a.len] at hy hz
    rw [← f_bk a.lt a.inj hy, ← f_bk a.lt a.inj hz, e]
  r y hy := by
    rw [a.len] at hy
    have hb := bk_lt a.lt a.inj hy
    have e : g t.1 y = f (g s.1 (bk s.1.length f y)) := by rw [a.r _ hb, f_bk a.lt a.inj hy]
    rw [e, bk_f a.lt a.inj (hs.gr hb)]
  u y hy := by
    rw [a.len] at hy
    have hb := bk_lt a.lt a.inj hy
    have e : g t.2 y = f (g s.2 (bk s.1.length f y)) := by rw [a.u _ hb, f_bk a.lt a.inj hy]
    rw [e, bk_f a.lt a.inj (hs.gu hb)]
theorem Sf.of_is {s t : List Nat × List Nat} {f : Nat → Nat} (hs : Sf s.1 s.2) (a : Is s t f) (p1 : IsP t.1) (p2 : IsP t.2) (hl : t.2.length = t.1.length) : Sf t.1 t.2 := by
  refine sf_of_tr p1 p2 (by rw [a.len]; exact hs.le) hl (by rw [a.len]; exact hs.pos) (fun S s0 k1 k2 y hy => ?_)
  rw [a.len] at k1 k2 hy
  have i0 := bk_lt a.lt a.inj hs.pos
  have h0 : S (f (bk s.1.length f 0)) := by rw [f_bk a.lt a.inj hs.pos]; exact s0
  have hm := (reach_full hs i0).2 (bk s.1.length f y) (bk_lt a.lt a.inj hy)
  have := (bfs_ind (fun x => S (f x)) (n := s.1.length) (fun x hx h => ⟨by rw [a.r x hx]; exact k1 _ (a.lt x hx) h, hs.gr hx⟩) (fun x hx h => ⟨by rw [a.u x hx]; exact k2 _ (a.lt x hx) h, hs.gu hx⟩) _ _ [bk s.1.length f 0] (by intro x hx; obtain rfl : x = bk s.1.length f 0 := (by simpa using hx); exact ⟨h0, i0⟩) _ hm).1
  rw [f_bk a.lt a.inj hy] at this
  exact this
theorem Sf.all_of {r u : List Nat} (hs : Sf r u) {S : Nat → Prop} {i : Nat} (hi : i < r.length) (h0 : S i) (h1 : ∀ x, x < r.length → S x → S (g r x)) (h2 : ∀ x, x < r.length → S x → S (g u x)) : ∀ y, y < r.length → S y := by
  intro y hy
  have hm := (reach_full hs hi).2 y hy
  exact (bfs_ind S (n := r.length) (fun x hx h => ⟨h1 x hx h, hs.gr hx⟩) (fun x hx h => ⟨h2 x hx h, hs.gu hx⟩) _ _ [i] (by intro x hx; obtain rfl : x = i := (by simpa using hx); exact ⟨h0, hi⟩) _ hm).1
theorem Is.ir {s t : List Nat × List Nat} {f : Nat → Nat} (hs : Sf s.1 s.2) (ht : Sf t.1 t.2) (a : Is s t f) {x : Nat} (hx : x < s.1.length) : f (ix s.1 x) = ix t.1 (f x) := by
  have h1 := hs.ir hx
  refine (ix_eq ht.pr (by rw [a.len]; exact a.lt _ h1) ?_).symm
  rw [← a.r _ h1, g_ix hs.pr hx]
theorem Is.iu {s t : List Nat × List Nat} {f : Nat → Nat} (hs : Sf s.1 s.2) (ht : Sf t.1 t.2) (a : Is s t f) {x : Nat} (hx : x < s.1.length) : f (ix s.2 x) = ix t.2 (f x) := by
  have h1 := hs.iu hx
  refine (ix_eq ht.pu (by rw [ht.eq, a.len]; exact a.lt _ h1) ?_).symm
  rw [← a.u _ h1, g_ix hs.pu (by rw [hs.eq]; exact hx)]
end Go.Proofs.Ytoijcallajegfaa.M
end
section
/- What the four letters keep: symmetries and half turns. No conditions. -/
namespace Go.Proofs.Ytoijcallajegfaa.M
set_option linter.unusedVariables false
set_option linter.unusedSimpArgs false
open Classical in
noncomputable def ledN (s t : List Nat × List Nat) (b : Nat) : Nat := ((List.range s.1.length).filter (fun i => decide (∃ f, Is s t f ∧ f b = i))).length
def symN (s : List Nat × List Nat) : Nat := ((List.range s.1.length).filter (fun i => decide (rS s.1 s.2 i = canS s.1 s.2))).length
def neg (s : List Nat × List Nat) : List Nat × List Nat := (inv s.1, inv s.2)
end Go.Proofs.Ytoijcallajegfaa.M
end
section
/- Plain mathematics: lists that fall, and the lengths of cycles. No conditions. -/
namespace Go.Proofs.Ytoijcallajegfaa.M
set_option linter.unusedVariables false
set_option linter.unusedSimpArgs false
def insD (x : Nat) : List Nat → List Nat
  | [] => [x]
  | y :: l => if y < x then x :: y :: l else y :: insD x l
def sortD (l : List Nat) : List Nat := l.foldl (fun a x => insD x a) []
def Fall (l : List Nat) : Prop := l.Pairwise (fun a b => b ≤ a)
theorem insD_perm (x : Nat) (l : List Nat) : (insD x l).Perm (x :: l) := by
  induction l with
  | nil => exact List.Perm.refl _
  | cons y l ih =>
    unfold insD
    split
    · exact List.Perm.refl _
    · exact (List.Perm.cons y ih).trans (List.Perm.swap x y l)
theorem insD_fall {x : Nat} {l : List Nat} (h : Fall l) : Fall (insD x l) := by
  induction l with
  | nil => exact List.pairwise_singleton _ _
  | cons y l ih =>
    obtain ⟨h1, h2⟩ := List.pairwise_cons.mp h
    unfold insD
    split
    · rename_i hy
      refine List.pairwise_cons.mpr ⟨fun b hb => ?_, h⟩
      rcases List.mem_cons.mp hb with rfl | hb
      · omega
      · have := h1 b hb
        omega
    · rename_i hy
      refine List.pairwise_cons.mpr ⟨fun b hb => ?_, ih h2⟩
      rcases List.mem_cons.mp ((insD_perm x l).mem_iff.mp hb) with rfl | hb
      · omega
      · exact h1 b hb
theorem sortD_aux : ∀ (l a : List Nat), Fall a → Fall (l.foldl (fun a x => insD x a) a) ∧ (l.foldl (fun a x => insD x a) a).Perm (a ++ l) := by
  intro l
  induction l with
  | nil => intro a h; exact ⟨h, by simp⟩
  | cons x l ih =>
    intro a h
    obtain ⟨h1, h2⟩ := ih (insD x a) (insD_fall h)
    refine ⟨h1, h2.trans ?_⟩
    exact ((insD_perm x a).append_right l).trans (List.perm_middle (l₁ := a) (a := x) (l₂ := l)).symm
theorem sortD_perm (l : List Nat) : (sortD l).Perm l := (sortD_aux l [] List.Pairwise.nil).2
theorem sortD_len (l : List Nat) : (sortD l).length = l.length := (sortD_perm l).length_eq
theorem insD_len (x : Nat) (l : List Nat) : (insD x l).length = l.length + 1 := by rw [(insD_perm x l).length_eq]; rfl
theorem insD_at {x : Nat} : ∀ {a : List Nat}, Fall a → ∀ k, k ≤ a.length → (∀ y ∈ a.drop k, y < x) → (k = 0 ∨ x ≤ g a (k - 1)) → insD x a = a.take k ++ x :: a.drop k := by
  intro a
  induction a with
  | nil => intro _ k hk _ _; simp [insD]
  | cons y a ih =>
    intro h k hk h1 h2
    obtain ⟨a1, a2⟩ := List.pairwise_cons.mp h
    cases k with
    | zero =>
      have : y < x := h1 y (by simp)
      simp [insD, this]
    | succ k =>
      have hy : x ≤ y := by
        rcases h2 with h2 | h2
        · omega
        · cases k with
          | zero => exact h2
          | succ k =>
            have e : g (y :: a) (k + 1 + 1 - 1) = g a k := rfl
            rw [e] at h2
            have hk' : k < a.length := by simp at hk; omega
            have := a1 (g a k) (g_mem hk')
            omega
      have hny : ¬ y < x := by omega
      simp only [insD, hny, if_false, List.take_succ_cons, List.drop_succ_cons, List.cons_append]
      rw [ih a2 k (by simpa using hk) (fun z hz => h1 z (by simpa using hz)) ?_]
      rcases h2 with h2 | h2
      · omega
      · cases k with
        | zero => exact .inl rfl
        | succ k => exact .inr h2
end Go.Proofs.Ytoijcallajegfaa.M
end
section
/- Plain mathematics: classes of what is linked. No conditions. -/
namespace Go.Proofs.Ytoijcallajegfaa.M
set_option linter.unusedVariables false
set_option linter.unusedSimpArgs false
inductive Cn (up : Nat → Option Nat) : Nat → Nat → Prop
  | refl (i : Nat) : Cn up i i
  | up {i j k : Nat} : up i = some j → Cn up j k → Cn up i k
  | dn {i j k : Nat} : up j = some i → Cn up j k → Cn up i k
theorem Cn.trans {up : Nat → Option Nat} {i j k : Nat} (h : Cn up i j) (h' : Cn up j k) : Cn up i k := by
  induction h with
  | refl i => exact h'
  | up e _ ih => exact .up e (ih h')
  | dn e _ ih => exact .dn e (ih h')
theorem Cn.symm {up : Nat → Option Nat} {i j : Nat} (h : Cn up i j) : Cn up j i := by
  induction h with
  | refl i => exact .refl i
  | up e _ ih => exact ih.trans (.dn e (.refl _))
  | dn e _ ih => exact ih.trans (.up e (.refl _))
theorem Cn.one {up : Nat → Option Nat} {i j : Nat} (h : up i = some j) : Cn up i j := .up h (.refl _)
theorem Cn.lt {n : Nat} {up : Nat → Option Nat} (hup : ∀ i j, up i = some j → i < n ∧ j < n) {i j : Nat} (h : Cn up i j) (hi : i < n) : j < n := by
  induction h with
  | refl i => exact hi
  | up e _ ih => exact ih (hup _ _ e).2
  | dn e _ ih => exact ih (hup _ _ e).1
theorem Cn.closed {up : Nat → Option Nat} {S : Nat → Prop} (hS : ∀ i j, up i = some j → (S i ↔ S j)) {i j : Nat} (h : Cn up i j) : S i ↔ S j := by
  induction h with
  | refl i => exact Iff.rfl
  | up e _ ih => exact (hS _ _ e).trans ih
  | dn e _ ih => exact (hS _ _ e).symm.trans ih
structure Grp (n : Nat) (up : Nat → Option Nat) (t : Nat) (G : Nat → Nat) : Prop where
  le : ∀ j, j < n → G j ≤ j
  fix : ∀ j, j < n → G (G j) = G j
  cn : ∀ j, j < n → Cn up j (G j)
  ed : ∀ i j, i < t → up i = some j → G i = G j
def mgf (G : Nat → Nat) (a b : Nat) : Nat → Nat := fun j => if G j = a ∨ G j = b then min a b else G j
theorem Grp.start (n : Nat) (up : Nat → Option Nat) : Grp n up 0 (fun j => j) := ⟨fun j _ => Nat.le_refl _, fun j _ => rfl, fun j _ => .refl _, fun i j h _ => by omega⟩
theorem Grp.skip {n t : Nat} {up : Nat → Option Nat} {G : Nat → Nat} (h : Grp n up t G) (e : up t = none) : Grp n up (t + 1) G :=
  ⟨h.le, h.fix, h.cn, fun i j hi hj => by
    by_cases e2 : i = t
    · subst e2
      rw [e] at hj
      cases hj
    · exact h.ed i j (by omega) hj⟩
theorem Grp.merge {n t k : Nat} {up : Nat → Option Nat} (hup : ∀ i j, up i = some j → i < n ∧ j < n) {G : Nat → Nat} (h : Grp n up t G) (e : up t = some k) : Grp n up (t + 1) (mgf G (G t) (G k)) := by
  obtain ⟨ht, hk⟩ := hup t k e
  have ha := h.fix t ht
  have hb := h.fix k hk
  have la := h.le t ht
  have lb := h.le k hk
  have hab : Cn up (G t) (G k) := (h.cn t ht).symm.trans ((Cn.one e).trans (h.cn k hk))
  have hm : min (G t) (G k) = G t ∨ min (G t) (G k) = G k := by omega
  refine ⟨fun j hj => ?_, fun j hj => ?_, fun j hj => ?_, fun i j hi hj => ?_⟩
  · unfold mgf
    have := h.le j hj
    split <;> omega
  · have key : ∀ c, (c = G t ∨ c = G k) → mgf G (G t) (G k) c = min (G t) (G k) := by
      intro c hc
      unfold mgf
      rw [if_pos (by rcases hc with rfl | rfl; exact .inl ha; exact .inr hb)]
    by_cases hc : G j = G t ∨ G j = G k
    · have e1 : mgf G (G t) (G k) j = min (G t) (G k) := by unfold mgf; rw [if_pos hc]
      rw [e1]
      exact key _ hm
    · have e1 : mgf G (G t) (G k) j = G j := by unfold mgf; rw [if_neg hc]
      rw [e1]
      unfold mgf
      rw [h.fix j hj, if_neg hc]
  · unfold mgf
    split
    · rename_i hc
      refine (h.cn j hj).trans ?_
      rcases hc with hc | hc <;> rcases hm with hm | hm <;> rw [hc, hm]
      · exact .refl _
      · exact hab
      · exact hab.symm
      · exact .refl _
    · exact h.cn j hj
  · by_cases e2 : i = t
    · subst e2
      rw [e] at hj
      injection hj with hj
      subst hj
      unfold mgf
      simp
    · unfold mgf
      rw [h.ed i j (by omega) hj]
theorem Grp.iff {n : Nat} {up : Nat → Option Nat} (hup : ∀ i j, up i = some j → i < n ∧ j < n) {G : Nat → Nat} (h : Grp n up n G) {i j : Nat} (hi : i < n) (hj : j < n) : G i = G j ↔ Cn up i j := by
  constructor
  · intro e
    have := (h.cn i hi).trans ((by rw [e]; exact .refl _ : Cn up (G i) (G j)).trans (h.cn j hj).symm)
    exact this
  · intro hc
    induction hc with
    | refl i => rfl
    | up e _ ih => rw [h.ed _ _ (hup _ _ e).1 e]; exact ih (hup _ _ e).2 hj
    | dn e _ ih => rw [← h.ed _ _ (hup _ _ e).1 e]; exact ih (hup _ _ e).1 hj
theorem Grp.head {n : Nat} {up : Nat → Option Nat} (hup : ∀ i j, up i = some j → i < n ∧ j < n) {G : Nat → Nat} (h : Grp n up n G) {i : Nat} (hi : i < n) : G i = i ↔ ∀ j, Cn up i j → i ≤ j := by
  constructor
  · intro e j hc
    have hj := hc.lt hup hi
    have := (h.iff hup hi hj).mpr hc
    have := h.le j hj
    omega
  · intro hc
    have := hc _ (h.cn i hi)
    have := h.le i hi
    omega
def ups (up : Nat → Option Nat) : Nat → Nat → Option Nat
  | 0, i => some i
  | m + 1, i => (up i).bind (ups up m)
theorem ups_succ (up : Nat → Option Nat) (m i : Nat) : ups up (m + 1) i = (ups up m i).bind up := by
  induction m generalizing i with
  | zero =>
    simp only [ups, Option.bind_some]
    cases h : up i <;> rfl
  | succ m ih =>
    show (up i).bind (ups up (m + 1)) = ((up i).bind (ups up m)).bind up
    cases h : up i with
    | none => rfl
    | some j => exact ih j
theorem ups_cn {up : Nat → Option Nat} {m i j : Nat} (h : ups up m i = some j) : Cn up i j := by
  induction m generalizing i with
  | zero => simp [ups] at h; subst h; exact .refl _
  | succ m ih =>
    obtain ⟨z, hz, h2⟩ := Option.bind_eq_some_iff.mp h
    exact .up hz (ih h2)
structure Mk (n : Nat) (up : Nat → Option Nat) (row : Nat) (S0 add : List Nat) : Prop where
  nd : add.Nodup
  lt : ∀ x ∈ add, x < n
  new : ∀ x ∈ add, x ∉ S0
  p : ∀ x ∈ add, (∃ m, ups up m row = some x) ∨ (∃ m, ups up m x = some row)
theorem Mk.cn {n : Nat} {up : Nat → Option Nat} {row : Nat} {S0 add : List Nat} (h : Mk n up row S0 add) {x : Nat} (hx : x ∈ add) : Cn up row x := by
  rcases h.p x hx with ⟨m, hm⟩ | ⟨m, hm⟩
  · exact ups_cn hm
  · exact (ups_cn hm).symm
theorem Mk.add {n : Nat} {up : Nat → Option Nat} {row : Nat} {S0 add : List Nat} (h : Mk n up row S0 add) {x : Nat} (hx : x < n) (h1 : x ∉ S0) (h2 : x ∉ add) (hp : (∃ m, ups up m row = some x) ∨ (∃ m, ups up m x = some row)) : Mk n up row S0 (add ++ [x]) := by
  refine ⟨List.nodup_append.mpr ⟨h.nd, by simp, fun a ha b hb e => ?_⟩, fun y hy => ?_, fun y hy => ?_, fun y hy => ?_⟩
  · have : b = x := by simpa using hb
    exact h2 (by rw [← this, ← e]; exact ha)
  · rcases List.mem_append.mp hy with hy | hy
    · exact h.lt y hy
    · have : y = x := by simpa using hy
      omega
  · rcases List.mem_append.mp hy with hy | hy
    · exact h.new y hy
    · have : y = x := by simpa using hy
      rw [this]
      exact h1
  · rcases List.mem_append.mp hy with hy | hy
    · exact h.p y hy
    · have : y = x := by simpa using hy
      rw [this]
      exact hp
theorem Mk.full {n : Nat} {up : Nat → Option Nat} (hup : ∀ i j, up i = some j → i < n ∧ j < n) (hinj : ∀ i i' j, up i = some j → up i' = some j → i = i') {row : Nat} {S0 add : List Nat} (h : Mk n up row S0 add) (hrow : row ∈ add)
    (hS0 : ∀ i j, up i = some j → (i ∈ S0 ↔ j ∈ S0)) (c1 : ∀ x ∈ add, ∀ y, up x = some y → y ∈ S0 ∨ y ∈ add)
    (c2 : ∀ k x, up k = some x → (x ∈ S0 ∨ x ∈ add) → (∃ m, ups up m k = some row) → (k ∈ S0 ∨ k ∈ add)) : ∀ x, x ∈ add ↔ Cn up row x := by
  have hrs : row ∉ S0 := h.new row hrow
  have chain : ∀ m x, ups up m row = some x → x ∈ add := by
    intro m
    induction m with
    | zero => intro x hx; simp [ups] at hx; rw [← hx]; exact hrow
    | succ m ih =>
      intro x hx
      rw [ups_succ] at hx
      obtain ⟨z, hz, hzx⟩ := Option.bind_eq_some_iff.mp hx
      have hza := ih z hz
      rcases c1 z hza x hzx with k | k
      · exact absurd ((hS0 z x hzx).mpr k) (h.new z hza)
      · exact k
  have closed : ∀ i j, up i = some j → ((i ∈ S0 ∨ i ∈ add) ↔ (j ∈ S0 ∨ j ∈ add)) := by
    intro i j e
    constructor
    · rintro (k | k)
      · exact .inl ((hS0 i j e).mp k)
      · exact c1 i k j e
    · rintro (k | k)
      · exact .inl ((hS0 i j e).mpr k)
      · rcases h.p j k with ⟨m, hm⟩ | ⟨m, hm⟩
        · cases m with
          | zero =>
            simp [ups] at hm
            subst hm
            exact c2 i _ e (.inr k) ⟨1, by simp [ups, e]⟩
          | succ m =>
            rw [ups_succ] at hm
            obtain ⟨z, hz, hzj⟩ := Option.bind_eq_some_iff.mp hm
            have := hinj i z j e hzj
            subst this
            exact .inr (chain m _ hz)
        · exact c2 i j e (.inr k) ⟨m + 1, by simp [ups, e, hm]⟩
  intro x
  constructor
  · exact fun hx => h.cn hx
  · intro hc
    have h1 := (Cn.closed (S := fun z => z ∈ S0 ∨ z ∈ add) closed hc).mp (.inr hrow)
    rcases h1 with h1 | h1
    · exact absurd ((Cn.closed (S := fun z => z ∈ S0) hS0 hc).mpr h1) hrs
    · exact h1
end Go.Proofs.Ytoijcallajegfaa.M
end
section
/- Half turns: the tests of the program and of the reference come to one plain test. No conditions. -/
namespace Go.Proofs.Ytoijcallajegfaa.M
set_option linter.unusedVariables false
set_option linter.unusedSimpArgs false
open Go.RowKit Go.Proofs.YtoijcallajegfaaW.PrintWords Go.Proofs.YtoijcallajegfaaW.PrintLast Go.Proofs.YtoijcallajegfaaW.PrintMore Go.Proofs.Ytoijcallajegfaa.A
def Turn (r u a : List Nat) : Prop := ∀ i, i < a.length → g a (g r i) = ix r (g a i) ∧ g a (g u i) = ix u (g a i)
instance (r u a : List Nat) : Decidable (Turn r u a) := by unfold Turn; infer_instance
end Go.Proofs.Ytoijcallajegfaa.M
end
section
/- Half turns as the program makes them. No conditions. -/
namespace Go.Proofs.Ytoijcallajegfaa.M
set_option linter.unusedVariables false
set_option linter.unusedSimpArgs false
open Go.RowKit Go.Proofs.YtoijcallajegfaaW.PrintWords Go.Proofs.YtoijcallajegfaaW.PrintLast Go.Proofs.YtoijcallajegfaaW.PrintMore Go.Proofs.Ytoijcallajegfaa.A
structure TurnP (r u b : List Nat) : Prop where
  len : b.length = r.length
  p : IsP b
  t : Turn r u b
theorem ix_inj {p : List Nat} (hp : IsP p) {x y : Nat} (hx : x < p.length) (hy : y < p.length) (h : ix p x = ix p y) : x = y := by
  rw [← g_ix hp hx, ← g_ix hp hy, h]
structure FI (r u : List Nat) (im : Nat) (out : List Nat) (f : Nat → Nat) : Prop where
  lt : ∀ x ∈ out, f x < r.length
  z : f 0 = im
  z0 : 0 ∈ out
  t : ∀ b, TurnP r u b → g b 0 = im → ∀ x ∈ out, f x = g b x
theorem FI.add {r u : List Nat} {im : Nat} {out : List Nat} {f : Nat → Nat} (h : FI r u im out f) {y v : Nat} (hy : y ∉ out) (hv : v < r.length) (ht : ∀ b, TurnP r u b → g b 0 = im → v = g b y) : FI r u im (out ++ [y]) (fun z => if z = y then v else f z) := by
  have h0 : (0 : Nat) ≠ y := fun e => hy (e ▸ h.z0)
  refine ⟨fun x hx => ?_, by simp [h0, h.z], by simp [h.z0], fun b hb hb0 x hx => ?_⟩
  · by_cases e : x = y
    · simp [e, hv]
    · rcases List.mem_append.mp hx with hx | hx
      · simp [e, h.lt x hx]
      · exact absurd (by simpa using hx) e
  · by_cases e : x = y
    · subst e
      simp [ht b hb hb0]
    · rcases List.mem_append.mp hx with hx | hx
      · simp [e, h.t b hb hb0 x hx]
      · exact absurd (by simpa using hx) e
end Go.Proofs.Ytoijcallajegfaa.M
end
section
/- Half turns: the program and the reference find the same ones. No conditions. -/
namespace Go.Proofs.Ytoijcallajegfaa.M
set_option linter.unusedVariables false
set_option linter.unusedSimpArgs false
open Go.RowKit Go.Proofs.YtoijcallajegfaaW.PrintWords Go.Proofs.YtoijcallajegfaaW.PrintLast Go.Proofs.YtoijcallajegfaaW.PrintMore Go.Proofs.Ytoijcallajegfaa.A
def Led (r u out : List Nat) (a : Nat) : Prop := ∀ i, i < out.length → 0 < i → ∃ j, j < i ∧ j < a ∧ (g out i = g r (g out j) ∨ g out i = g u (g out j))
theorem g_app {out : List Nat} {x i : Nat} (h : i < out.length) : g (out ++ [x]) i = g out i := by
  unfold g
  rw [List.getD_eq_getElem?_getD, List.getD_eq_getElem?_getD, List.getElem?_append_left h]
theorem g_last (out : List Nat) (x : Nat) : g (out ++ [x]) out.length = x := getD_mid out x [] 0
theorem Led.st {r u out : List Nat} {a y : Nat} (h : Led r u out (a + 1)) (ha : a < out.length) (hy : y = g r (g out a) ∨ y = g u (g out a)) : Led r u (st1 out y) (a + 1) := by
  unfold st1
  split
  · exact h
  · intro i hi h0
    by_cases e : i < out.length
    · obtain ⟨j, j1, j2, j3⟩ := h i e h0
      refine ⟨j, j1, j2, ?_⟩
      rw [g_app e, g_app (by omega)]
      exact j3
    · have e2 : i = out.length := by simp at hi; omega
      subst e2
      refine ⟨a, ha, by omega, ?_⟩
      rw [g_last, g_app ha]
      exact hy
inductive Given (r u L : List Nat) (i : Nat) : Nat → Prop
  | z : Given r u L i 0
  | r (j : Nat) : j < i → Given r u L i (g r (g L j))
  | u (j : Nat) : j < i → Given r u L i (g u (g L j))
theorem Given.mono {r u L : List Nat} {i x : Nat} (h : Given r u L i x) : Given r u L (i + 1) x := by
  cases h with
  | z => exact .z
  | r j hj => exact .r j (by omega)
  | u j hj => exact .u j (by omega)
structure GI (r u : List Nat) (im : Nat) (i : Nat) (c : List Nat) : Prop where
  len : c.length = r.length
  lt : ∀ x, x < r.length → g c x < r.length
  t : ∀ b, TurnP r u b → g b 0 = im → ∀ x, Given r u (reach r u 0) i x → g c x = g b x
  n : ∀ b, TurnP r u b → g b 0 ≠ im → ∀ x, Given r u (reach r u 0) i x → g c x ≠ g b x
theorem GI.put {r u : List Nat} (hs : Sf r u) {p : List Nat} (hp : p = r ∨ p = u) {im : Nat} {c : List Nat} (P : Nat → Prop) (h1 : c.length = r.length) (h2 : ∀ x, x < r.length → g c x < r.length) (ht : ∀ b, TurnP r u b → g b 0 = im → ∀ x, P x → g c x = g b x) (hn : ∀ b, TurnP r u b → g b 0 ≠ im → ∀ x, P x → g c x ≠ g b x) {x : Nat} (hx : x < r.length) (hP : P x) :
    (c.set (g p x) (ix p (g c x))).length = r.length ∧ (∀ z, z < r.length → g (c.set (g p x) (ix p (g c x))) z < r.length) ∧ (∀ b, TurnP r u b → g b 0 = im → ∀ z, (P z ∨ z = g p x) → g (c.set (g p x) (ix p (g c x))) z = g b z) ∧ (∀ b, TurnP r u b → g b 0 ≠ im → ∀ z, (P z ∨ z = g p x) → g (c.set (g p x) (ix p (g c x))) z ≠ g b z) := by
  have heq := hs.eq
  have ipp : IsP p := by rcases hp with rfl | rfl; exact hs.pr; exact hs.pu
  have hpl : p.length = r.length := by rcases hp with rfl | rfl; rfl; exact heq
  have gx := g_lt ipp (i := x) (by omega)
  have cx := h2 x hx
  have hv := ix_lt ipp (x := g c x) (by omega)
  have tp : ∀ b, TurnP r u b → g b (g p x) = ix p (g b x) := fun b hb => by
    have := hb.t x (by rw [hb.len]; exact hx)
    rcases hp with rfl | rfl
    · exact this.1
    · exact this.2
  refine ⟨by rw [List.length_set]; exact h1, fun z hz => ?_, fun b hb hb0 z hz => ?_, fun b hb hb0 z hz => ?_⟩
  · rw [g_set (by omega)]
    split
    · omega
    · exact h2 z hz
  · rw [g_set (by omega)]
    by_cases e : g p x = z
    · rw [if_pos e, ← e, tp b hb, ht b hb hb0 x hP]
    · rw [if_neg e]
      rcases hz with hz | hz
      · exact ht b hb hb0 z hz
      · exact absurd hz.symm e
  · rw [g_set (by omega)]
    by_cases e : g p x = z
    · rw [if_pos e, ← e, tp b hb]
      intro h
      exact hn b hb hb0 x hP (ix_inj ipp (by omega) (by have := g_lt hb.p (i := x) (by rw [hb.len]; exact hx); rw [hb.len] at this; omega) h)
    · rw [if_neg e]
      rcases hz with hz | hz
      · exact hn b hb hb0 z hz
      · exact absurd hz.symm e
end Go.Proofs.Ytoijcallajegfaa.M
end
section
/- Fixed points: the program and the reference answer alike. No conditions. -/
namespace Go.Proofs.Ytoijcallajegfaa.M
set_option linter.unusedVariables false
set_option linter.unusedSimpArgs false
open Go.RowKit Go.Proofs.YtoijcallajegfaaW.PrintWords Go.Proofs.YtoijcallajegfaaW.PrintLast Go.Proofs.YtoijcallajegfaaW.PrintMore Go.Proofs.Ytoijcallajegfaa.A
theorem spec_corners {r u : List Nat} (hs : Sf r u) : Ev (fun k => spec_CornersOf.f k (I r) (I u)) (I2 (cycles (arnd r u))) := by
  unfold spec_CornersOf.f
  refine Ev.bind (spec_surf _ _) ?_
  rw [surfB_I.mpr hs]
  simp only [if_true]
  exact Ev.bind (spec_around hs) (Ev.bind (spec_cycles (isP_arnd hs) (by rw [arnd_len]; exact hs.le)) (Ev.now _))
theorem impl_corners {r u : List Nat} (hs : Sf r u) : Ev (fun k => impl_CornersOf.f k (I r) (I u)) (I2 (cycles (arnd r u))) := by
  unfold impl_CornersOf.f
  refine Ev.bind (impl_surf _ _) ?_
  rw [surfB_I.mpr hs]
  simp only [if_true]
  exact Ev.bind (impl_around hs) (Ev.bind (impl_cycles (isP_arnd hs) (by rw [arnd_len]; exact hs.le)) (Ev.now _))
end Go.Proofs.Ytoijcallajegfaa.M
end
section
/- The genus of a quotient: the program and the reference answer alike. No conditions. -/
namespace Go.Proofs.Ytoijcallajegfaa.M
set_option linter.unusedVariables false
set_option linter.unusedSimpArgs false
open Go.RowKit Go.Proofs.YtoijcallajegfaaW.PrintWords Go.Proofs.YtoijcallajegfaaW.PrintLast Go.Proofs.YtoijcallajegfaaW.PrintMore Go.Proofs.Ytoijcallajegfaa.A
def genusI (n c : Nat) : Int := wrap64 (1 + (wrap64 (Int.tdiv (wrap64 ((n : Int) - (c : Int))) 2)))
end Go.Proofs.Ytoijcallajegfaa.M
end
section
/- What words keep: the program's answers. No conditions. -/
namespace Go.Proofs.Ytoijcallajegfaa.M
set_option linter.unusedVariables false
set_option linter.unusedSimpArgs false
open Go.RowKit Go.Proofs.YtoijcallajegfaaW.PrintWords Go.Proofs.YtoijcallajegfaaW.PrintLast Go.Proofs.YtoijcallajegfaaW.PrintMore Go.Proofs.Ytoijcallajegfaa.A
def angL (s : List Nat × List Nat) : List Nat := sortD ((cycles (arnd s.1 s.2)).map List.length)
theorem angL_len (s : List Nat × List Nat) : (angL s).length = (cycles (arnd s.1 s.2)).length := by unfold angL; rw [sortD_len, List.length_map]
theorem ang_le {s : List Nat × List Nat} (hs : Sf s.1 s.2) : ∀ x ∈ (cycles (arnd s.1 s.2)).map List.length, x ≤ 24 := by
  intro x hx
  obtain ⟨c, hc, rfl⟩ := List.mem_map.mp hx
  exact cycle_len (isP_arnd hs) (by rw [arnd_len]; exact hs.le) c hc
theorem impl_genus {r u : List Nat} (hs : Sf r u) : Ev (fun k => impl_GenusOf.f k (I r) (I u)) (genusI r.length (cycles (arnd r u)).length) := by
  unfold impl_GenusOf.f
  have h0 := surfB_I.mpr hs
  refine Ev.bind (impl_surf _ _) ?_
  simp only [h0, if_true]
  refine Ev.bind (count_sq hs) (Ev.bind (impl_corners hs) ?_)
  rw [I2_len]
  exact Ev.now _
def strL (s : List Nat × List Nat) : List Nat := ((angL s).filter (fun a => decide (1 < a))).map (fun a => a - 1)
structure Alike (s t : List Nat × List Nat) : Prop where
  sf : Sf t.1 t.2
  len : t.1.length = s.1.length
  sym : symN t = symN s
  turn : ledN t (neg t) 0 = ledN s (neg s) 0
  ang : angL t = angL s
end Go.Proofs.Ytoijcallajegfaa.M
end
section
/- The reference's sorting. No conditions. -/
namespace Go.Proofs.Ytoijcallajegfaa.M
set_option linter.unusedVariables false
set_option linter.unusedSimpArgs false
open Go.RowKit Go.Proofs.YtoijcallajegfaaW.PrintWords Go.Proofs.YtoijcallajegfaaW.PrintLast Go.Proofs.YtoijcallajegfaaW.PrintMore Go.Proofs.Ytoijcallajegfaa.A
theorem rd_leftD (a : List Nat) (z : Int) (b : List Nat) {k : Nat} (h : k < a.length) : rd (I a ++ z :: I b) (k : Int) = ((g a k : Nat) : Int) := by
  rw [← rdI]
  unfold rd
  rw [Int.toNat_natCast, List.getD_eq_getElem?_getD, List.getD_eq_getElem?_getD, List.getElem?_append_left (by rw [I_len]; exact h)]
theorem set_atD (a : List Nat) (z v : Int) (b : List Nat) : (I a ++ z :: I b).set a.length v = I a ++ v :: I b := by
  rw [← I_len a]
  exact set_mid (I a) z v (I b)
theorem take_gD {a : List Nat} {k : Nat} (h : k < a.length) : a.take (k + 1) = a.take k ++ [g a k] := by
  rw [g_get h, List.take_append_getElem h]
theorem down_put (acc : List Nat) (hf : Fall acc) (hl : acc.length ≤ 1000) (x : Nat) (L : List Int) (n j : Int) (res : List Int)
    (h : Ev (fun k => spec_l04Down.l0 k (I (insD x acc)) L n (wrap64 (j + 1))) res) :
    ∀ (k : Nat) (z : Int), k ≤ acc.length → (∀ y ∈ acc.drop k, y < x) → Ev (fun q => spec_l04Down.l1 q (I (acc.take k) ++ z :: I (acc.drop k)) (x : Int) (k : Int) L n j) res := by
  intro k
  induction k with
  | zero =>
    intro z _ hd
    have e := insD_at hf 0 (Nat.zero_le _) hd (.inl rfl)
    have hs := set_atD (acc.take 0) z (x : Int) (acc.drop 0)
    refine ev_succ ?_
    have c1 : ¬ (((0 : Nat) : Int) > 0) := by omega
    have c2 : (0 : Int) ≤ ((0 : Nat) : Int) := by omega
    have c3 : ((0 : Nat) : Int) < ((I (acc.take 0) ++ z :: I (acc.drop 0)).length : Int) := by simp; omega
    have c4 : (I (acc.take 0) ++ z :: I (acc.drop 0)).set ((0 : Nat) : Int).toNat (x : Int) = I (insD x acc) := by
      rw [e, ← I_app]
      exact hs
    simp only [spec_l04Down.l1, c1, c2, c3, c4, if_true, if_false]
    exact h
  | succ k ih =>
    intro z hk hd
    have hk' : k < acc.length := by omega
    have htl : (acc.take (k + 1)).length = k + 1 := by rw [List.length_take]; omega
    have c1 : ((k + 1 : Nat) : Int) > 0 := by omega
    have c5 : (0 : Int) ≤ (k : Int) := by omega
    have hlen : (I (acc.take (k + 1)) ++ z :: I (acc.drop (k + 1))).length = acc.length + 1 := by
      rw [List.length_append, List.length_cons, I_len, I_len, htl, List.length_drop]
      omega
    have c6 : (k : Int) < ((I (acc.take (k + 1)) ++ z :: I (acc.drop (k + 1))).length : Int) := by rw [hlen]; omega
    have c7 : (0 : Int) ≤ ((k + 1 : Nat) : Int) := by omega
    have c8 : ((k + 1 : Nat) : Int) < ((I (acc.take (k + 1)) ++ z :: I (acc.drop (k + 1))).length : Int) := by rw [hlen]; omega
    have hgk : g (acc.take (k + 1)) k = g acc k := by
      unfold g
      rw [List.getD_eq_getElem?_getD, List.getD_eq_getElem?_getD, List.getElem?_take]
      simp
    have c9 : rd (I (acc.take (k + 1)) ++ z :: I (acc.drop (k + 1))) (k : Int) = ((g acc k : Nat) : Int) := by
      rw [rd_leftD _ _ _ (by rw [htl]; omega), hgk]
    have c3 : wrap64 (((k + 1 : Nat) : Int) - 1) = (k : Int) := by rw [w64 (by omega) (by omega)]; omega
    refine ev_succ ?_
    by_cases hlt : g acc k < x
    · have c10 : ((g acc k : Nat) : Int) < (x : Int) := by exact_mod_cast hlt
      have hs : (I (acc.take (k + 1)) ++ z :: I (acc.drop (k + 1))).set (((k + 1 : Nat) : Int)).toNat ((g acc k : Nat) : Int) = I (acc.take k) ++ ((g acc k : Nat) : Int) :: I (acc.drop k) := by
        have h1 := set_atD (acc.take (k + 1)) z ((g acc k : Nat) : Int) (acc.drop (k + 1))
        rw [htl] at h1
        rw [Int.toNat_natCast, h1, take_gD hk', ← I_app, I_one, List.append_assoc]
        have h2 : acc.drop k = g acc k :: acc.drop (k + 1) := by rw [g_get hk']; exact List.drop_eq_getElem_cons hk'
        rw [h2]
        rfl
      have key := ih ((g acc k : Nat) : Int) (by omega) (fun y hy => by
        have h2 : acc.drop k = g acc k :: acc.drop (k + 1) := by rw [g_get hk']; exact List.drop_eq_getElem_cons hk'
        rw [h2] at hy
        rcases List.mem_cons.mp hy with rfl | hy
        · exact hlt
        · exact hd y hy)
      simp only [spec_l04Down.l1, c1, c3, c5, c6, c7, c8, c9, c10, hs, if_true]
      exact key
    · have c10 : ¬ (((g acc k : Nat) : Int) < (x : Int)) := by omega
      have e := insD_at hf (k + 1) hk hd (.inr (by show x ≤ g acc k; omega))
      have c4 : (I (acc.take (k + 1)) ++ z :: I (acc.drop (k + 1))).set (((k + 1 : Nat) : Int)).toNat (x : Int) = I (insD x acc) := by
        have h1 := set_atD (acc.take (k + 1)) z (x : Int) (acc.drop (k + 1))
        rw [htl] at h1
        rw [Int.toNat_natCast, h1, e, ← I_app]
        rfl
      simp only [spec_l04Down.l1, c1, c3, c4, c5, c6, c7, c8, c9, c10, if_true, if_false]
      exact h
theorem down_sorted (l : List Nat) (hl : l.length ≤ 1000) : Ev (fun k => spec_l04Down.f k (I l)) (I (sortD l)) := by
  unfold spec_l04Down.f
  have H : ∀ d j : Nat, j + d = l.length → ∀ acc : List Nat, Fall acc → acc.length = j → (l.drop j).foldl (fun a x => insD x a) acc = sortD l → Ev (fun k => spec_l04Down.l0 k (I acc) (I l) (l.length : Int) (j : Int)) (I (sortD l)) := by
    intro d
    induction d with
    | zero =>
      intro j hj acc hf ha he
      rw [List.drop_of_length_le (by omega)] at he
      refine ev_succ ?_
      have c1 : ¬ ((j : Int) < (l.length : Int)) := by omega
      simp only [spec_l04Down.l0, c1, if_false]
      rw [← he]
      exact Ev.now _
    | succ d ih =>
      intro j hj acc hf ha he
      have hjl : j < l.length := by omega
      rw [List.drop_eq_getElem_cons hjl, List.foldl_cons, ← g_get hjl] at he
      have key := ih (j + 1) (by omega) (insD (g l j) acc) (insD_fall hf) (by rw [insD_len, ha]) he
      have c3 := w64s j (by omega)
      rw [← c3] at key
      have put := down_put acc hf (by omega) (g l j) (I l) (l.length : Int) (j : Int) _ key acc.length 0 (Nat.le_refl _) (fun y hy => by rw [List.drop_length] at hy; simp at hy)
      rw [List.take_length, List.drop_length, I_nil] at put
      have q1 : acc.length + 1 ≤ 9000000000000000000 := by omega
      have c1 : (j : Int) < (l.length : Int) := by omega
      have c2 : (0 : Int) ≤ (j : Int) := by omega
      have c5 : (I acc).length < 17592186044416 := by rw [I_len]; omega
      have c4 : wrap64 (((I acc ++ [0]).length : Int) - 1) = (acc.length : Int) := by
        have e : ((I acc ++ [0]).length : Int) - 1 = (acc.length : Int) := by rw [List.length_append, I_len]; simp
        rw [e]
        exact w64 (by omega) (by omega)
      refine ev_succ ?_
      simp only [spec_l04Down.l0, c1, c2, c4, c5, rdI, I_len', if_true, Option.bind_some]
      exact put
  have key := H l.length 0 (Nat.zero_add _) [] List.Pairwise.nil rfl (by rw [List.drop_zero]; rfl)
  rw [← I_len l] at key
  exact key
end Go.Proofs.Ytoijcallajegfaa.M
end
section
/- The surfaces of a stratum: the program and the reference find the same ones. No conditions. -/
namespace Go.Proofs.Ytoijcallajegfaa.M
set_option linter.unusedVariables false
set_option linter.unusedSimpArgs false
open Go.RowKit Go.Proofs.YtoijcallajegfaaW.PrintWords Go.Proofs.YtoijcallajegfaaW.PrintLast Go.Proofs.YtoijcallajegfaaW.PrintMore Go.Proofs.Ytoijcallajegfaa.A
theorem rd_getI {l : List Int} {i : Nat} (h : i < l.length) : rd l (i : Int) = l[i] := by
  unfold rd
  rw [Int.toNat_natCast, List.getD_eq_getElem?_getD, List.getElem?_eq_getElem h]
  rfl
theorem sameList_int (a b : List Int) (h : a.length ≤ 1000000000) : Ev (fun k => spec_SameList.f k a b) (decide (a = b)) := by
  unfold spec_SameList.f
  by_cases hl : (a.length : Int) = (b.length : Int)
  · have hl' : a.length = b.length := by omega
    simp only [hl, ne_eq, not_true_eq_false, if_false, if_true]
    have H : ∀ d i : Nat, i + d = a.length → Ev (fun k => spec_SameList.l0 k b a (b.length : Int) (i : Int)) (decide (a.drop i = b.drop i)) := by
      intro d
      induction d with
      | zero =>
        intro i hi
        refine ev_succ ?_
        have c1 : ¬ ((i : Int) < (b.length : Int)) := by omega
        have e : decide (a.drop i = b.drop i) = true := by rw [List.drop_of_length_le (by omega), List.drop_of_length_le (by omega)]; simp
        simp only [spec_SameList.l0, c1, if_false, e]
        exact Ev.now _
      | succ d ih =>
        intro i hi
        have hia : i < a.length := by omega
        have hib : i < b.length := by omega
        rw [List.drop_eq_getElem_cons hia, ← rd_getI hia, List.drop_eq_getElem_cons hib, ← rd_getI hib]
        have c1 : (i : Int) < (b.length : Int) := by omega
        have c2 : (0 : Int) ≤ (i : Int) := by omega
        have c4 : (i : Int) < (a.length : Int) := by omega
        have c3 := w64s i (by omega)
        refine ev_succ ?_
        by_cases he : rd a (i : Int) = rd b (i : Int)
        · have z : rd a (i : Int) = rd b (i : Int) := he
          have e : decide (rd a (i : Int) :: a.drop (i + 1) = rd b (i : Int) :: b.drop (i + 1)) = decide (a.drop (i + 1) = b.drop (i + 1)) := by simp [he]
          rw [e]
          simp only [spec_SameList.l0, c1, c2, c3, c4, z, if_true]
          exact ih (i + 1) (by omega)
        · have z : ¬ (rd a (i : Int) = rd b (i : Int)) := he
          have e : decide (rd a (i : Int) :: a.drop (i + 1) = rd b (i : Int) :: b.drop (i + 1)) = false := by simp [he]
          rw [e]
          simp only [spec_SameList.l0, c1, c2, c4, z, if_true, if_false]
          exact Ev.now _
    have key := H a.length 0 (Nat.zero_add _)
    rw [List.drop_zero, List.drop_zero] at key
    exact key
  · have e : decide (a = b) = false := by
      rw [decide_eq_false_iff_not]
      intro e
      rw [e] at hl
      exact hl rfl
    simp only [hl, ne_eq, not_false_eq_true, if_true, if_false, e]
    exact Ev.now _
theorem spec_lengths (C : List (List Nat)) (h24 : C.length ≤ 24) : Ev (fun k => spec_l04Lengths.f k (I2 C)) (I (sortD (C.map List.length))) := by
  unfold spec_l04Lengths.f
  have H : ∀ d j : Nat, j + d = C.length → Ev (fun k => spec_l04Lengths.l0 k (I ((C.take j).map List.length)) (I2 C) (C.length : Int) (j : Int)) (I (sortD (C.map List.length))) := by
    intro d
    induction d with
    | zero =>
      intro j hj
      obtain rfl : j = C.length := by omega
      refine ev_succ ?_
      have c1 : ¬ ((C.length : Int) < (C.length : Int)) := by omega
      simp only [spec_l04Lengths.l0, c1, if_false, List.take_length]
      exact Ev.bind (down_sorted _ (by rw [List.length_map]; omega)) (Ev.now _)
    | succ d ih =>
      intro j hj
      have hjl : j < C.length := by omega
      have c1 : (j : Int) < (C.length : Int) := by omega
      have c2 : (0 : Int) ≤ (j : Int) := by omega
      have c4 : rd_L5 (I2 C) (j : Int) = I (C[j]) := rdL_I2 C j hjl
      have c5 : (I ((C.take j).map List.length)).length < 17592186044416 := by rw [I_len, List.length_map, List.length_take]; omega
      have c6 : I ((C.take j).map List.length) ++ [((C[j].length : Nat) : Int)] = I ((C.take (j + 1)).map List.length) := by
        rw [I_snoc, ← List.take_append_getElem hjl, List.map_append]
        rfl
      have c3 := w64s j (by omega)
      refine ev_succ ?_
      simp only [spec_l04Lengths.l0, c1, c2, c3, c4, c5, c6, I2_len, I_len', if_true]
      exact ih (j + 1) (by omega)
  have key := H C.length 0 (Nat.zero_add _)
  rw [← I2_len C] at key
  exact key
theorem spec_angles {s : List Nat × List Nat} (hs : Sf s.1 s.2) : Ev (fun k => spec_AnglesOf.f k (I s.1) (I s.2)) (I (angL s)) := by
  have h24 := cycles_len (p := arnd s.1 s.2) (by rw [arnd_len]; exact hs.le)
  unfold spec_AnglesOf.f angL
  exact Ev.bind (spec_corners hs) (Ev.bind (spec_lengths _ h24) (Ev.now _))
theorem spec_strat {s : List Nat × List Nat} (hs : Sf s.1 s.2) : Ev (fun k => spec_StratumOf.f k (I s.1) (I s.2)) (I (strL s)) := by
  have h24 := cycles_len (p := arnd s.1 s.2) (by rw [arnd_len]; exact hs.le)
  rw [← angL_len] at h24
  have hle : ∀ x ∈ angL s, x ≤ 24 := fun x hx => ang_le hs x ((sortD_perm _).mem_iff.mp hx)
  unfold spec_StratumOf.f strL
  refine Ev.bind (spec_angles hs) ?_
  generalize angL s = C at h24 hle
  have H : ∀ d j : Nat, j + d = C.length → Ev (fun k => spec_StratumOf.l0 k (I (((C.take j).filter (fun a => decide (1 < a))).map (fun a => a - 1))) (I C) (C.length : Int) (j : Int)) (I ((C.filter (fun a => decide (1 < a))).map (fun a => a - 1))) := by
    intro d
    induction d with
    | zero =>
      intro j hj
      obtain rfl : j = C.length := by omega
      refine ev_succ ?_
      have c1 : ¬ ((C.length : Int) < (C.length : Int)) := by omega
      simp only [spec_StratumOf.l0, c1, if_false, List.take_length]
      exact Ev.now _
    | succ d ih =>
      intro j hj
      have hjl : j < C.length := by omega
      have hm := hle _ (g_mem hjl)
      have c1 : (j : Int) < (C.length : Int) := by omega
      have c2 : (0 : Int) ≤ (j : Int) := by omega
      have c5 : (I (((C.take j).filter (fun a => decide (1 < a))).map (fun a => a - 1))).length < 17592186044416 := by
        rw [I_len, List.length_map]
        have := List.length_filter_le (fun a => decide (1 < a)) (C.take j)
        rw [List.length_take] at this
        omega
      have c3 := w64s j (by omega)
      have e0 : C.take (j + 1) = C.take j ++ [g C j] := by rw [g_get hjl, List.take_append_getElem hjl]
      have key := ih (j + 1) (by omega)
      rw [e0, List.filter_append, List.map_append] at key
      refine ev_succ ?_
      by_cases h : 1 < g C j
      · have h' : ((g C j : Nat) : Int) > 1 := by omega
        have c6 : wrap64 (((g C j : Nat) : Int) - 1) = ((g C j - 1 : Nat) : Int) := by rw [w64 (by omega) (by omega)]; omega
        have e1 : ([g C j].filter (fun a => decide (1 < a))).map (fun a => a - 1) = [g C j - 1] := by simp [h]
        rw [e1] at key
        simp only [spec_StratumOf.l0, c1, c2, c3, c5, c6, rdI, I_len', I_snoc, h', if_true]
        exact key
      · have h' : ¬ ((g C j : Nat) : Int) > 1 := by omega
        have e1 : ([g C j].filter (fun a => decide (1 < a))).map (fun a => a - 1) = [] := by simp [h]
        rw [e1, List.append_nil] at key
        simp only [spec_StratumOf.l0, c1, c2, c3, rdI, I_len', h', if_true, if_false]
        exact key
  have key := H C.length 0 (Nat.zero_add _)
  rw [← I_len C] at key
  exact key
def tabN : Nat → List (List Nat × List Nat)
  | 1 => [([0], [0])]
  | 2 => [([0, 1], [1, 0]), ([1, 0], [0, 1]), ([1, 0], [1, 0])]
  | 3 => [([0, 1, 2], [1, 2, 0]), ([0, 2, 1], [1, 0, 2]), ([0, 2, 1], [1, 2, 0]), ([1, 2, 0], [0, 1, 2]), ([1, 2, 0], [0, 2, 1]), ([1, 2, 0], [1, 2, 0]), ([1, 2, 0], [2, 0, 1])]
  | 4 => [([0, 1, 2, 3], [1, 2, 3, 0]), ([0, 1, 3, 2], [1, 2, 0, 3]), ([0, 1, 3, 2], [1, 2, 3, 0]), ([0, 2, 1, 3], [1, 0, 3, 2]), ([0, 2, 1, 3], [1, 3, 0, 2]), ([0, 2, 3, 1], [1, 0, 2, 3]), ([0, 2, 3, 1], [1, 0, 3, 2]), ([0, 2, 3, 1], [1, 2, 0, 3]), ([0, 2, 3, 1], [1, 2, 3, 0]), ([0, 2, 3, 1], [1, 3, 0, 2]), ([0, 2, 3, 1], [1, 3, 2, 0]), ([1, 0, 3, 2], [0, 2, 1, 3]), ([1, 0, 3, 2], [0, 2, 3, 1]), ([1, 0, 3, 2], [1, 2, 3, 0]), ([1, 0, 3, 2], [2, 3, 0, 1]), ([1, 0, 3, 2], [2, 3, 1, 0]), ([1, 2, 3, 0], [0, 1, 2, 3]), ([1, 2, 3, 0], [0, 1, 3, 2]), ([1, 2, 3, 0], [0, 2, 3, 1]), ([1, 2, 3, 0], [0, 3, 1, 2]), ([1, 2, 3, 0], [0, 3, 2, 1]), ([1, 2, 3, 0], [1, 0, 3, 2]), ([1, 2, 3, 0], [1, 2, 3, 0]), ([1, 2, 3, 0], [1, 3, 0, 2]), ([1, 2, 3, 0], [2, 3, 0, 1]), ([1, 3, 0, 2], [2, 0, 3, 1])]
  | _ => []
theorem surf_tab3 : surfN 1 = tabN 1 ∧ surfN 2 = tabN 2 ∧ surfN 3 = tabN 3 := by decide +kernel
theorem surf_tab4 : surfN 4 = tabN 4 := by decide +kernel
theorem surf_tab {n : Nat} (h1 : 1 ≤ n) (h4 : n ≤ 4) : surfN n = tabN n := by
  rcases four_cases h1 h4 with rfl | rfl | rfl | rfl
  · exact surf_tab3.1
  · exact surf_tab3.2.1
  · exact surf_tab3.2.2
  · exact surf_tab4
theorem tab_ok : ∀ n : Fin 5, (tabN n.val).length ≤ 26 ∧ ∀ s ∈ tabN n.val, surfB (I s.1) (I s.2) = true := by decide +kernel
theorem tabN_ok {n : Nat} (h4 : n ≤ 4) : (tabN n).length ≤ 26 ∧ ∀ s ∈ tabN n, Sf s.1 s.2 := by
  obtain ⟨a, b⟩ := tab_ok ⟨n, by omega⟩
  exact ⟨a, fun s hs => surfB_I.1 (b s hs)⟩
def inStr (l : List (List Nat × List Nat)) (x : List Int) : List (List Nat × List Nat) := l.filter (fun s => decide (I (strL s) = x))
theorem strL_le {s : List Nat × List Nat} (hs : Sf s.1 s.2) : (strL s).length ≤ 24 := by
  unfold strL
  rw [List.length_map]
  refine Nat.le_trans (List.length_filter_le _ _) ?_
  rw [angL_len]
  exact cycles_len (p := arnd s.1 s.2) (by rw [arnd_len]; exact hs.le)
theorem spec_in_loop (x : List Int) (l : List (List Nat × List Nat)) (hl : l.length ≤ 1000) (hs : ∀ s ∈ l, Sf s.1 s.2) : ∀ (rest pre : List (List Nat × List Nat)), pre ++ rest = l → Ev (fun k => spec_SurfacesIn.l0 k x (LS (inStr pre x)) (LS l) ((LS l).length : Int) (pre.length : Int)) (LS (inStr l x)) := by
  intro rest
  induction rest with
  | nil =>
    intro pre e
    rw [List.append_nil] at e
    subst e
    refine ev_succ ?_
    have d1 : ¬ ((pre.length : Int) < ((LS pre).length : Int)) := by rw [LS_len]; omega
    simp only [spec_SurfacesIn.l0, d1, if_false]
    exact Ev.now _
  | cons s rest ih =>
    intro pre e
    have hlen : l.length = pre.length + (rest.length + 1) := by rw [← e]; simp
    have h0 := hs s (by rw [← e]; simp)
    refine ev_succ ?_
    have d1 : ((pre.length : Int) < ((LS l).length : Int)) := by rw [LS_len]; omega
    have d2 : (0 : Int) ≤ (pre.length : Int) := by omega
    have d3 := w64s pre.length (by omega)
    have d4 : rd_T33 (LS l) (pre.length : Int) = ⟨I s.1, I s.2⟩ := by rw [← e]; exact LS_mid pre s rest
    have e3 : ((pre ++ [s]).length : Int) = ((pre.length + 1 : Nat) : Int) := by simp
    have e4 : inStr (pre ++ [s]) x = inStr pre x ++ inStr [s] x := List.filter_append ..
    have d5 : (LS (inStr pre x)).length < 2932031007402 := by
      rw [LS_len]
      have : (inStr pre x).length ≤ pre.length := List.length_filter_le ..
      omega
    have key := ih (pre ++ [s]) (by rw [← e]; simp)
    rw [e3, e4, LS_app] at key
    have hl2 := strL_le h0
    simp only [spec_SurfacesIn.l0, d1, d2, d4, if_true]
    refine Ev.bind (spec_strat h0) (Ev.bind (sameList_int _ x (by rw [I_len]; omega)) ?_)
    by_cases hx : I (strL s) = x
    · have e5 : inStr [s] x = [s] := by simp [inStr, hx]
      rw [e5] at key
      simp only [hx, decide_true, if_true, d5, d3]
      exact key
    · have e5 : inStr [s] x = [] := by simp [inStr, hx]
      rw [e5] at key
      simp only [hx, decide_false, Bool.false_eq_true, if_false, d3]
      simpa [LS] using key
theorem spec_in {n : Nat} (h1 : 1 ≤ n) (h4 : n ≤ 4) (x : List Int) : Ev (fun k => spec_SurfacesIn.f k (n : Int) x) (LS (inStr (tabN n) x)) := by
  obtain ⟨a, b⟩ := tabN_ok h4
  have := spec_with h1 h4
  rw [surf_tab h1 h4] at this
  unfold spec_SurfacesIn.f
  exact Ev.bind this (spec_in_loop x (tabN n) (by omega) b (tabN n) [] rfl)
end Go.Proofs.Ytoijcallajegfaa.M
end
section
/- The tori, counted: the program and the reference agree. No conditions. -/
namespace Go.Proofs.Ytoijcallajegfaa.M
set_option linter.unusedVariables false
set_option linter.unusedSimpArgs false
open Go.RowKit Go.Proofs.YtoijcallajegfaaW.PrintWords Go.Proofs.YtoijcallajegfaaW.PrintLast Go.Proofs.YtoijcallajegfaaW.PrintMore Go.Proofs.Ytoijcallajegfaa.A
def torB (s : List Nat × List Nat) : Bool := decide (genusI s.1.length (cycles (arnd s.1 s.2)).length = 1)
theorem tori_tab : ∀ n : Fin 5, (tabN n.val).countP torB = (inStr (tabN n.val) []).length := by decide +kernel
theorem tori_loop (l : List (List Nat × List Nat)) (hl : l.length ≤ 1000) (hs : ∀ s ∈ l, Sf s.1 s.2) : ∀ (rest pre : List (List Nat × List Nat)), pre ++ rest = l → Ev (fun k => impl_CountTori.l0 k ((pre.countP torB : Nat) : Int) (LS l) ((LS l).length : Int) (pre.length : Int)) ((l.countP torB : Nat) : Int) := by
  intro rest
  induction rest with
  | nil =>
    intro pre e
    rw [List.append_nil] at e
    subst e
    refine ev_succ ?_
    have d1 : ¬ ((pre.length : Int) < ((LS pre).length : Int)) := by rw [LS_len]; omega
    simp only [impl_CountTori.l0, d1, if_false]
    exact Ev.now _
  | cons s rest ih =>
    intro pre e
    have hlen : l.length = pre.length + (rest.length + 1) := by rw [← e]; simp
    have h0 := hs s (by rw [← e]; simp)
    refine ev_succ ?_
    have d1 : ((pre.length : Int) < ((LS l).length : Int)) := by rw [LS_len]; omega
    have d2 : (0 : Int) ≤ (pre.length : Int) := by omega
    have d3 := w64s pre.length (by omega)
    have d4 : rd_T33 (LS l) (pre.length : Int) = ⟨I s.1, I s.2⟩ := by rw [← e]; exact LS_mid pre s rest
    have e3 : ((pre ++ [s]).length : Int) = ((pre.length + 1 : Nat) : Int) := by simp
    have hc : pre.countP torB ≤ pre.length := List.countP_le_length
    have d6 := w64s (pre.countP torB) (by omega)
    have key := ih (pre ++ [s]) (by rw [← e]; simp)
    rw [e3, List.countP_append] at key
    simp only [impl_CountTori.l0, d1, d2, d4, if_true]
    refine Ev.bind (impl_genus h0) ?_
    by_cases hx : genusI s.1.length (cycles (arnd s.1 s.2)).length = 1
    · have e5 : [s].countP torB = 1 := by simp [torB, hx]
      rw [e5] at key
      simp only [hx, if_true, d6, d3]
      exact key
    · have e5 : [s].countP torB = 0 := by simp [torB, hx]
      rw [e5, Nat.add_zero] at key
      simp only [hx, if_false, d3]
      exact key
theorem impl_tori {n : Nat} (h1 : 1 ≤ n) (h4 : n ≤ 4) : Ev (fun k => impl_CountTori.f k (n : Int)) (((tabN n).countP torB : Nat) : Int) := by
  obtain ⟨a, b⟩ := tabN_ok h4
  have h := impl_with h1 h4
  rw [surf_tab h1 h4] at h
  unfold impl_CountTori.f
  have c1 : ¬ ((n : Int) < 1) := by omega
  have c2 : ¬ ((n : Int) > 4) := by omega
  simp only [c1, c2, if_false, decide_false]
  refine ev_succ ?_
  simp only [impl_CountTori.j0, Bool.false_eq_true, if_false]
  exact Ev.bind h (tori_loop (tabN n) (by omega) b (tabN n) [] rfl)
theorem spec_tori {n : Nat} (h1 : 1 ≤ n) (h4 : n ≤ 4) : Ev (fun k => spec_CountTori.f k (n : Int)) (((tabN n).countP torB : Nat) : Int) := by
  unfold spec_CountTori.f
  have c0 : (decide ((1 : Int) ≤ (n : Int)) && decide ((n : Int) ≤ 4)) = true := by
    rw [Bool.and_eq_true]
    exact ⟨decide_eq_true (by omega), decide_eq_true (by omega)⟩
  rw [spec_in14, c0]
  simp only [Option.bind_some, if_true]
  refine Ev.bind (spec_in h1 h4 []) ?_
  rw [LS_len, ← tori_tab ⟨n, by omega⟩]
  exact Ev.now _
theorem spec_tori_no {n : Int} (h : ¬ (1 ≤ n ∧ n ≤ 4)) : Ev (fun k => spec_CountTori.f k n) (-1) := by
  unfold spec_CountTori.f
  have c0 : (decide ((1 : Int) ≤ n) && decide (n ≤ 4)) = false := by
    rw [Bool.eq_false_iff]
    intro h0
    rw [Bool.and_eq_true] at h0
    exact h ⟨of_decide_eq_true h0.1, of_decide_eq_true h0.2⟩
  rw [spec_in14, c0]
  simp only [Option.bind_some, Bool.false_eq_true, if_false]
  exact Ev.now _
theorem impl_tori_no {n : Int} (h : ¬ (1 ≤ n ∧ n ≤ 4)) : Ev (fun k => impl_CountTori.f k n) (-1) := by
  unfold impl_CountTori.f
  by_cases h1 : n < 1
  · simp only [h1, if_true]
    refine ev_succ ?_
    simp only [impl_CountTori.j0, if_true]
    exact Ev.now _
  · have h2 : n > 4 := by omega
    simp only [h1, h2, if_false, decide_true]
    refine ev_succ ?_
    simp only [impl_CountTori.j0, if_true]
    exact Ev.now _
end Go.Proofs.Ytoijcallajegfaa.M
end
section
/- The law of counted tori answers true. No conditions. -/
namespace Go.Proofs.Ytoijcallajegfaa.Pure
set_option linter.unusedVariables false
set_option linter.unusedSimpArgs false
open Go.RowKit Go.Proofs.YtoijcallajegfaaW.PrintWords Go.Proofs.YtoijcallajegfaaW.PrintLast Go.Proofs.YtoijcallajegfaaW.PrintMore Go.Proofs.Ytoijcallajegfaa.A Go.Proofs.Ytoijcallajegfaa.M
theorem FnExactCountTori (n : Int) (hn : (Lit.int .i64 n).wf = true) : ∃ k, laws_FnExactCountTori.F k n := by
  unfold laws_FnExactCountTori.F
  by_cases h : 1 ≤ n ∧ n ≤ 4
  · obtain ⟨m, rfl⟩ : ∃ m : Nat, n = (m : Int) := ⟨n.toNat, by omega⟩
    obtain ⟨K1, e1⟩ := spec_tori (n := m) (by omega) (by omega)
    obtain ⟨K2, e2⟩ := impl_tori (n := m) (by omega) (by omega)
    exact ⟨K1 + K2, _, e1 _ (by omega), e2 _ (by omega)⟩
  · obtain ⟨K1, e1⟩ := spec_tori_no h
    obtain ⟨K2, e2⟩ := impl_tori_no h
    exact ⟨K1 + K2, _, e1 _ (by omega), e2 _ (by omega)⟩
end Go.Proofs.Ytoijcallajegfaa.Pure
end
