/- Lemmas for the row FnExactSurfacesIn: the program's functions told as plain functions, and plain mathematics. No conditions. -/
import Derived.Test.YtoijcallajegfaaGreatQFnExactSurfacesIn2
section
namespace Go.Proofs.YtoijcallajegfaaGreat.A
open Go.RowKit Go.Proofs.YtoijcallajegfaaGreatW.PrintWords Go.Proofs.YtoijcallajegfaaGreatW.PrintLast Go.Proofs.YtoijcallajegfaaGreatW.PrintMore
attribute [local go_sem] max2_int min2_int max_two min_two max_three min_three max_four min_four
set_option linter.unusedVariables false
set_option linter.unusedSimpArgs false
def Z44.f (k : Nat) (l0 : List Int) (l1 : List Int) : Option (Bool) := (Z5.f k l0 l1).bind fun t565 => (some t565)
theorem Z44.mono : ∀ a0 a1 k, LeO (Z44.f k a0 a1) (Z44.f (k + 1) a0 a1) := by
 intro a0 a1 k
 unfold Z44.f
 repeat' first|exact Z5.mono _ _ _|exact lo_|refine LeO.ite ?_ ?_|refine LeO.bind ?_ (fun _ => ?_)
set_option maxHeartbeats 8000000 in
set_option maxRecDepth 100000 in
theorem Z44.calls (k : Nat) (A0 : Option Addr) (c0 : Nat) (l0 : List Int) (A1 : Option Addr) (c1 : Nat) (l1 : List Int) (r : Bool) (w : World) (hr0 : Kd.C (Kd.int .i64) w A0 l0.length l0) (hc0 : l0.length ≤ c0) (hr1 : Kd.C (Kd.int .i64) w A1 l1.length l1) (hc1 : l1.length ≤ c1) (h : Z44.f k l0 l1 = some r) :
  Calls Tryz.prog 28 #[.slice A0 l0.length c0, .slice A1 l1.length c1] w fun e w' => e = .returned (.bool r) ∧ Drawn0 w w' := by
 have HR0 := A_ hr0
 have HC0 := A_ hc0
 clear hr0 hc0
 have HR1 := A_ hr1
 have HC1 := A_ hc1
 clear hr1 hc1
 have H := h
 unfold Z44.f at H
 clear h
 obtain ⟨t565, A3, H⟩ := bi_ H
 obtain rfl := Option.some.inj H
 go_enter Tryz.func28, Tryz.ntmps28
 go_wp2_with (first | ((with_reducible refine gA_ (f := 44) rfl ?_); refine gL_ (some 7) Tryz.func44 #[.slice A0 l0.length c0, .slice A1 l1.length c1] rfl qa_ ?_; (with_reducible refine (Z5.calls k _ _ l0 _ _ l1 t565 _ (cc_ HR0) HC0.out (cc_ HR1) HC1.out A3.out).mono ?_); rintro e w' ⟨rfl, ⟨nd, rfl⟩⟩; refine ⟨_, rfl, ?_⟩))
 go_ret
 exact ⟨qc_, by repeat (first | exact Drawn0.refl _ | apply Drawn0.step)⟩
def Z6.l0 : Nat → List Int → Int → Int → Int → Option (Int)
 | 0, _, _, _, _ => none
 | k + 1, x0, x1, x7, x8 => if x8 < x7 then (if 0 ≤ x8 then (if x8 < (x0.length : Int) then (if x1 = (rd x0 x8) then (some x8) else (Z6.l0 k x0 x1 x7 (wrap64 (x8 + 1)))) else (none)) else (none)) else (some (-1))
def Z6.f (k : Nat) (l0 : List Int) (a1 : Int) : Option (Int) := Z6.l0 k l0 a1 (l0.length : Int) 0
theorem Z6.mono_l : ∀ k, (∀ y0 y1 y2 y3, LeO (Z6.l0 k y0 y1 y2 y3) (Z6.l0 (k + 1) y0 y1 y2 y3))
 | 0 => fun _ _ _ _ r h => by simp [Z6.l0] at h
 | k + 1 => by
  have ih0 := Z6.mono_l k
  ·intro y0 y1 y2 y3
   unfold Z6.l0
   repeat' first|exact ih0 _ _ _ _|exact lo_|refine LeO.ite ?_ ?_|refine LeO.bind ?_ (fun _ => ?_)
theorem Z6.mono : ∀ a0 a1 k, LeO (Z6.f k a0 a1) (Z6.f (k + 1) a0 a1) := by
 intro a0 a1 k
 have ih0 := Z6.mono_l k
 unfold Z6.f
 repeat' first|exact ih0 _ _ _ _|exact lo_|refine LeO.ite ?_ ?_|refine LeO.bind ?_ (fun _ => ?_)
set_option maxHeartbeats 8000000 in
set_option maxRecDepth 100000 in
theorem Z6.calls (k : Nat) (A0 : Option Addr) (c0 : Nat) (l0 : List Int) (a1 : Int) (r : Int) (w : World) (hr0 : Kd.C (Kd.int .i64) w A0 l0.length l0) (hc0 : l0.length ≤ c0) (h : Z6.f k l0 a1 = some r) :
  Calls Tryz.prog 83 #[.slice A0 l0.length c0, .int .i64 a1] w fun e w' => e = .returned (.int .i64 r) ∧ Drawn0 w w' := by
 have HR0 := A_ hr0
 have HC0 := A_ hc0
 clear hr0 hc0
 have H := h
 unfold Z6.f at H
 clear h
 have H' := A_ H
 clear H
 go_enter Tryz.func83, Tryz.ntmps83
 go_wp2
 go_loopg [8] k (fun kq v8 w' => ∃ (x8_1 : Int), v8 = .int .i64 x8_1 ∧ Aside0 (Z6.l0 kq l0 a1 (l0.length : Int) x8_1 = some r) ∧ Aside0 (kq ≤ k) ∧ Drawn0 w w')
 case atStart => exact ⟨(0), qc_, H', ⟨nA_ _⟩, by repeat (first | exact Drawn0.refl _ | apply Drawn0.step)⟩
 case round =>
  clear H'
  obtain ⟨x8_1, rfl, HA, HK1, ⟨m1, rfl⟩⟩ := hrel
  cases gk with
  | zero => exact absurd HA.out (by simp [Z6.l0])
  | succ k1 =>
   have H := HA.out
   clear HA
   simp only [Z6.l0] at H
   by_cases c3 : x8_1 < (l0.length : Int)
   ·rw [if_pos c3] at H
    have c3b0 := oC_ c3
    clear c3
    have c4 := cp_ H
    replace H := ca_ H
    have c4b0 := oC_ c4
    clear c4
    have c5 := cp_ H
    replace H := ca_ H
    have c5b0 := oC_ c5
    clear c5
    by_cases c6 : a1 = (rd l0 x8_1)
    ·rw [if_pos c6] at H
     have c6b0 : (a1 == (rd l0 x8_1)) = true := beq_iff_eq.mpr c6
     have c6b1 : (a1 != (rd l0 x8_1)) = false := bne_eq_false_iff_eq.mpr c6
     clear c6
     obtain rfl := Option.some.inj H
     have p420 : 0 ≤ (x8_1 : Int) := oB_ qe_
     have q420 : x8_1 < (l0.length : Int) := oB_ qe_
     obtain ⟨ad420, e420, hx420_0⟩ := Kd.at_int HR0.out x8_1 p420 q420
     cases e420
     replace p420 := eq_true p420
     replace q420 := eq_true q420
     go_wp2
     go_ret
     exact ⟨qc_, by repeat (first | exact Drawn0.refl _ | apply Drawn0.step)⟩
    ·rw [if_neg c6] at H
     have c6b0 : (a1 == (rd l0 x8_1)) = false := beq_eq_false_iff_ne.mpr c6
     have c6b1 : (a1 != (rd l0 x8_1)) = true := bne_iff_ne.mpr c6
     have H' := A_ H
     clear H
     have p420 : 0 ≤ (x8_1 : Int) := oB_ qe_
     have q420 : x8_1 < (l0.length : Int) := oB_ qe_
     obtain ⟨ad420, e420, hx420_0⟩ := Kd.at_int HR0.out x8_1 p420 q420
     cases e420
     replace p420 := eq_true p420
     replace q420 := eq_true q420
     go_wp2
     go_roundg k1
     case measure => have := HK1.out; omega
     case rel => exact ⟨(wrap64 (x8_1 + 1)), qc_, H', ⟨by have := HK1.out; omega⟩, by repeat (first | exact Drawn0.refl _ | apply Drawn0.step)⟩
   ·rw [if_neg c3] at H
    have c3b0 := oD_ c3
    clear c3
    obtain rfl := Option.some.inj H
    go_wp2
    go_ret
    exact ⟨qc_, by repeat (first | exact Drawn0.refl _ | apply Drawn0.step)⟩
def Z1.f (k : Nat) (l0 : List Int) (a1 : Int) : Option (Bool) := (Z6.f k l0 a1).bind fun t421 => (some (decide (t421 ≥ 0)))
theorem Z1.mono : ∀ a0 a1 k, LeO (Z1.f k a0 a1) (Z1.f (k + 1) a0 a1) := by
 intro a0 a1 k
 unfold Z1.f
 repeat' first|exact Z6.mono _ _ _|exact lo_|refine LeO.ite ?_ ?_|refine LeO.bind ?_ (fun _ => ?_)
set_option maxHeartbeats 8000000 in
set_option maxRecDepth 100000 in
theorem Z1.calls (k : Nat) (A0 : Option Addr) (c0 : Nat) (l0 : List Int) (a1 : Int) (r : Bool) (w : World) (hr0 : Kd.C (Kd.int .i64) w A0 l0.length l0) (hc0 : l0.length ≤ c0) (h : Z1.f k l0 a1 = some r) :
  Calls Tryz.prog 53 #[.slice A0 l0.length c0, .int .i64 a1] w fun e w' => e = .returned (.bool r) ∧ Drawn0 w w' := by
 have HR0 := A_ hr0
 have HC0 := A_ hc0
 clear hr0 hc0
 have H := h
 unfold Z1.f at H
 clear h
 obtain ⟨t421, A3, H⟩ := bi_ H
 obtain rfl := Option.some.inj H
 go_enter Tryz.func53, Tryz.ntmps53
 go_wp2_with (first | ((with_reducible refine gA_ (f := 83) rfl ?_); refine gL_ (some 7) Tryz.func83 #[.slice A0 l0.length c0, .int .i64 a1] rfl qa_ ?_; (with_reducible refine (Z6.calls k _ _ l0 a1 t421 _ (cc_ HR0) HC0.out A3.out).mono ?_); rintro e w' ⟨rfl, ⟨nd, rfl⟩⟩; refine ⟨_, rfl, ?_⟩))
 go_ret
 exact ⟨qc_, by repeat (first | exact Drawn0.refl _ | apply Drawn0.step)⟩
def Z47.f (l0 : List Int) : Option (List Int) := (some (([] : List Int) : List Int)).bind fun y422 => (if y422.length + l0.length < 17592186044416 then (some (y422 ++ l0)) else (none))
set_option maxHeartbeats 8000000 in
set_option maxRecDepth 100000 in
theorem Z47.calls (A0 : Option Addr) (c0 : Nat) (l0 : List Int) (r : List Int) (w : World) (hr0 : Kd.C (Kd.int .i64) w A0 l0.length l0) (hc0 : l0.length ≤ c0) (h : Z47.f l0 = some r) :
  Calls Tryz.prog 54 #[.slice A0 l0.length c0] w fun e w' => ∃ v0_ : Value, e = .returned (v0_) ∧ Kd.R (Kd.int .i64) 3 w' w.heap.size (fun _ => True) v0_ r ∧ Below w.heap.size w w' := by
 have HR0 := A_ hr0
 have HC0 := A_ hc0
 clear hr0 hc0
 have HB := A_ (Below.refl w.heap.size w)
 have H := h
 unfold Z47.f at H
 clear h
 obtain ⟨y422, hy422⟩ : ∃ y_ : List Int, y_ = (([] : List Int)) := ⟨_, rfl⟩
 replace H : (if y422.length + l0.length < 17592186044416 then (some (y422 ++ l0)) else (none)) = some r := by first | (rw [hy422]; exact H) | exact H
 have Ny422 := A_ hy422
 clear hy422
 have c2 := cp_ H
 replace H := ca_ H
 have LMc2 := A_ c2
 clear c2
 obtain ⟨y425, hy425⟩ : ∃ y_ : List Int, y_ = (y422 ++ l0) := ⟨_, rfl⟩
 replace H : (some y425) = some r := by first | (rw [hy425]; exact H) | exact H
 have Ny425 := A_ hy425
 clear hy425
 obtain rfl := Option.some.inj H
 go_enter Tryz.func54, Tryz.ntmps54
 go_wp2_with (first | ((with_reducible refine gB_ (N := 3) rfl ?_); refine Kd.R_lit (Kd.int .i64) _ 3 ?hg (N := 3) ?hd (xs := ([] : List Int)) (inner := []) (ok := fun _ => True) (okp := fun _ => True) ?hr ?hp (fun _ hk => hk) trivial (Below.refl _ _) (nA_ _) (by simp) ?_; (case hd => rfl); (case hg => rfl); (case hr => first | (go_simp; done) | (go_simp; rfl)); (case hp => exact (Reps.none _ _)); intro v423 w3 ho4 hb hg_ hnew_; clear hg_ hnew_; (first | rw [← Ny422.out] at ho4 | (simp only [Int.reduceToNat] at ho4; rw [← Ny422.out] at ho4)); have HO424 := rl_ w ho4; replace HB := b1_ hb; clear hb ho4) | ((with_reducible refine gate_builtin (b := .append) (xs := #[.tmp 3, .tmp 4]) rfl ?_); at_builtin; refine Kd.R_append_rows (Kd.int .i64) (w0 := w) w.heap.size rfl (.tmp 3) (.tmp 4) 27 3 (.int .i64 0) 8 rfl Tryz.underlying27 info3 rfl (by decide) (by omega) v423 y422 l0 _ _ _ (fun _ => True) (fun _ => False) rfl rfl ?aO ?aR (fun _ _ h => h) (fun _ h => h.elim) ?aF ?aB ?aS ?aL ?_; (case aR => exact cb_ HR0); (case aB => exact hB_); (case aF => exact (fun _ _ => trivial)); (case aO => exact (rr_ HO424)); (case aS => exact (bF_ hB_)); (case aL => have := LMc2.out; omega); intro v426 w5 ho hb hg hat; rw [← Ny425.out] at ho; replace HB := A_ hb; have HO427 := A_ ho; clear HO424; clear ho hb hg hat))
 go_ret
 exact ⟨_, qb_, (rr_ HO427), hB_⟩
end Go.Proofs.YtoijcallajegfaaGreat.A
end
section
namespace Go.Proofs.YtoijcallajegfaaGreat.A
open Go.RowKit Go.Proofs.YtoijcallajegfaaGreatW.PrintWords Go.Proofs.YtoijcallajegfaaGreatW.PrintLast Go.Proofs.YtoijcallajegfaaGreatW.PrintMore
attribute [local go_sem] max2_int min2_int max_two min_two max_three min_three max_four min_four
set_option linter.unusedVariables false
set_option linter.unusedSimpArgs false
mutual
def Z46.l0 : Nat → Int → List (List Int) → Int → Option ((List (List Int)))
 | 0, _, _, _ => none
 | k + 1, x0, x3, x4 => if x4 < x0 then (Z46.l1 k x0 x4 (([] : List (List Int))) x3 (x3.length : Int) 0) else (some x3)
def Z46.l1 : Nat → Int → Int → List (List Int) → List (List Int) → Int → Int → Option ((List (List Int)))
 | 0, _, _, _, _, _, _ => none
 | k + 1, x0, x4, x5, x17, x18, x19 => if x19 < x18 then (if 0 ≤ x19 then (if x19 < (x17.length : Int) then (Z46.l2 k x0 x4 x5 (rd_L1 x17 x19) 0 x17 x18 x19) else (none)) else (none)) else (Z46.l0 k x0 x5 (wrap64 (x4 + 1)))
def Z46.l2 : Nat → Int → Int → List (List Int) → List Int → Int → List (List Int) → Int → Int → Option ((List (List Int)))
 | 0, _, _, _, _, _, _, _, _ => none
 | k + 1, x0, x4, x5, x7, x8, x17, x18, x19 => if x8 < x0 then ((Z1.f k x7 x8).bind fun t438 => (if t438 = true then (Z46.l2 k x0 x4 x5 x7 (wrap64 (x8 + 1)) x17 x18 x19) else ((Z47.f x7).bind fun t439 => (if t439.length < 17592186044416 then (if x5.length < 5864062014805 then (Z46.l2 k x0 x4 (x5 ++ [(t439 ++ [x8])]) x7 (wrap64 (x8 + 1)) x17 x18 x19) else (none)) else (none))))) else (Z46.l1 k x0 x4 x5 x17 x18 (wrap64 (x19 + 1)))
end
def Z46.f (k : Nat) (a0 : Int) : Option ((List (List Int))) := Z46.l0 k a0 (([(([] : List Int))] : List (List Int))) 0
theorem Z46.mono_l : ∀ k, (∀ y0 y1 y2, LeO (Z46.l0 k y0 y1 y2) (Z46.l0 (k + 1) y0 y1 y2)) ∧ (∀ y0 y1 y2 y3 y4 y5, LeO (Z46.l1 k y0 y1 y2 y3 y4 y5) (Z46.l1 (k + 1) y0 y1 y2 y3 y4 y5)) ∧ (∀ y0 y1 y2 y3 y4 y5 y6 y7, LeO (Z46.l2 k y0 y1 y2 y3 y4 y5 y6 y7) (Z46.l2 (k + 1) y0 y1 y2 y3 y4 y5 y6 y7))
 | 0 => ⟨fun _ _ _ r h => by simp [Z46.l0] at h, fun _ _ _ _ _ _ r h => by simp [Z46.l1] at h, fun _ _ _ _ _ _ _ _ r h => by simp [Z46.l2] at h⟩
 | k + 1 => by
  obtain ⟨ih0, ih1, ih2⟩ := Z46.mono_l k
  refine ⟨?_, ?_, ?_⟩
  ·intro y0 y1 y2
   unfold Z46.l0
   repeat' first|exact ih0 _ _ _|exact ih1 _ _ _ _ _ _|exact ih2 _ _ _ _ _ _ _ _|exact Z1.mono _ _ _|exact lo_|refine LeO.ite ?_ ?_|refine LeO.bind ?_ (fun _ => ?_)
  ·intro y0 y1 y2 y3 y4 y5
   unfold Z46.l1
   repeat' first|exact ih0 _ _ _|exact ih1 _ _ _ _ _ _|exact ih2 _ _ _ _ _ _ _ _|exact Z1.mono _ _ _|exact lo_|refine LeO.ite ?_ ?_|refine LeO.bind ?_ (fun _ => ?_)
  ·intro y0 y1 y2 y3 y4 y5 y6 y7
   unfold Z46.l2
   repeat' first|exact ih0 _ _ _|exact ih1 _ _ _ _ _ _|exact ih2 _ _ _ _ _ _ _ _|exact Z1.mono _ _ _|exact lo_|refine LeO.ite ?_ ?_|refine LeO.bind ?_ (fun _ => ?_)
theorem Z46.mono : ∀ a0 k, LeO (Z46.f k a0) (Z46.f (k + 1) a0) := by
 intro a0 k
 obtain ⟨ih0, ih1, ih2⟩ := Z46.mono_l k
 unfold Z46.f
 repeat' first|exact ih0 _ _ _|exact ih1 _ _ _ _ _ _|exact ih2 _ _ _ _ _ _ _ _|exact Z1.mono _ _ _|exact lo_|refine LeO.ite ?_ ?_|refine LeO.bind ?_ (fun _ => ?_)
set_option maxHeartbeats 8000000 in
set_option maxRecDepth 100000 in
theorem Z46.calls (k : Nat) (a0 : Int) (r : List (List Int)) (w : World) (h : Z46.f k a0 = some r) :
  Calls Tryz.prog 37 #[.int .i64 a0] w fun e w' => ∃ v0_ : Value, e = .returned (v0_) ∧ Kd.N (Kd.slice 3 (Kd.int .i64)) 27 w' w.heap.size (fun k_ => (w.heap.size ≤ k_)) v0_ r ∧ Below w.heap.size w w' := by
 have HB := A_ (Below.refl w.heap.size w)
 have H := h
 unfold Z46.f at H
 clear h
 obtain ⟨y428, hy428⟩ : ∃ y_ : List Int, y_ = (([] : List Int)) := ⟨_, rfl⟩
 replace H : (Z46.l0 k a0 (([y428] : List (List Int))) 0) = some r := by first | (rw [hy428]; exact H) | exact H
 have Ny428 := A_ hy428
 clear hy428
 obtain ⟨y431, hy431⟩ : ∃ y_ : List (List Int), y_ = (([y428] : List (List Int))) := ⟨_, rfl⟩
 replace H : (Z46.l0 k a0 y431 0) = some r := by first | (rw [hy431]; exact H) | exact H
 have Ny431 := A_ hy431
 clear hy431
 have H' := A_ H
 clear H
 go_enter Tryz.func37, Tryz.ntmps37
 go_wp2_with (first | ((with_reducible refine gB_ (N := 9) rfl ?_); refine Kd.R_lit (Kd.int .i64) _ 3 ?hg (N := 9) ?hd (xs := ([] : List Int)) (inner := []) (ok := fun _ => True) (okp := fun _ => True) ?hr ?hp (fun _ hk => hk) trivial (Below.refl _ _) (nA_ _) (by simp) ?_; (case hd => rfl); (case hg => rfl); (case hr => first | (go_simp; done) | (go_simp; rfl)); (case hp => exact (Reps.none _ _)); intro v429 w2 ho3 hb hg_ hnew_; clear hg_ hnew_; (first | rw [← Ny428.out] at ho3 | (simp only [Int.reduceToNat] at ho3; rw [← Ny428.out] at ho3)); have HO430 := A_ (rE_ (Kd.R_newM (M := fun k_ => (w.heap.size ≤ k_)) ho3 (bF_ hB_) (fun k_ h_ => h_)) (bF_ hB_)); replace HB := b1_ hb; clear hb ho3; obtain ⟨Ao4, co4, eo4⟩ := Kd.R_slice HO430.out; subst eo4) | ((with_reducible refine gB_ (N := 10) rfl ?_); refine Kd.N_lit (Kd.slice 3 (Kd.int .i64)) _ 27 ?hg (N' := 10) ?hd (xs := ([y428] : List (List Int))) (inner := [.slice Ao4 y428.length co4]) (ok := (fun k_ => (w.heap.size ≤ k_))) (okp := (fun k_ => (w.heap.size ≤ k_))) ?hr ?hp (fun _ hk => hk) ((show ∀ k_, w2.heap.size ≤ k_ → (fun k_ => (w.heap.size ≤ k_)) k_ from fun k_ hk => (Nat.le_trans (bF_ hB_) hk)) _ (nA_ _)) (Below.refl _ _) (nA_ _) (by simp) ?_; (case hd => rfl); (case hg => rfl); (case hr => first | (go_simp; done) | (go_simp; rfl)); (case hp => exact (Reps.one (show Kd.FK (Kd.slice 3 (Kd.int .i64)) _ _ y428 [.slice Ao4 y428.length co4] from (Kd.FK_slice_mk (Kd.R_reads' (Kd.R_mono (ok' := (fun k_ => (w.heap.size ≤ k_))) (HO430.out) (fun k_ hk => hk.1))).2.1 (Kd.R_F (Kd.R_mono (ok' := (fun k_ => (w.heap.size ≤ k_))) (HO430.out) (fun k_ hk => hk.1))))) (Reps.none _ _))); intro v432 w5 ho6 hb hg_ hnew_; clear hg_ hnew_; (first | rw [← Ny431.out] at ho6 | (simp only [Int.reduceToNat] at ho6; rw [← Ny431.out] at ho6)); have HO433 := A_ (Kd.N_lower ho6 (bF_ hB_)); replace HB := b1_ hb; clear HO430; clear hb ho6))
 go_loopg [3, 4] k (fun kq v3 v4 w' => ∃ (x3_1 : List (List Int)) (x4_1 : Int), v4 = .int .i64 x4_1 ∧ Aside0 (Z46.l0 kq a0 x3_1 x4_1 = some r) ∧ Aside0 (kq ≤ k) ∧ Aside0 (Kd.N (Kd.slice 3 (Kd.int .i64)) 27 w' w.heap.size (fun k_ => (w.heap.size ≤ k_)) v3 x3_1) ∧ Aside0 (Below w.heap.size w w'))
 case atStart => exact ⟨(y431), (0), qc_, H', ⟨nA_ _⟩, ⟨by (with_reducible repeat (first | apply Kd.N_alloc | apply Kd.N_drewN | apply Kd.N_drew)); exact HO433.out⟩, ⟨hB_⟩⟩
 case round =>
  clear H'
  obtain ⟨x3_1, x4_1, rfl, HA, HK1, HO_3, HB⟩ := hrel
  cases gk with
  | zero => exact absurd HA.out (by simp [Z46.l0])
  | succ k1 =>
   have H := HA.out
   clear HA
   simp only [Z46.l0] at H
   by_cases c7 : x4_1 < a0
   ·rw [if_pos c7] at H
    have c7b0 := oC_ c7
    clear c7
    obtain ⟨y434, hy434⟩ : ∃ y_ : List (List Int), y_ = (([] : List (List Int))) := ⟨_, rfl⟩
    replace H : (Z46.l1 k1 a0 x4_1 y434 x3_1 (x3_1.length : Int) 0) = some r := by first | (rw [hy434]; exact H) | exact H
    have Ny434 := A_ hy434
    clear hy434
    have H' := A_ H
    clear H
    go_wp2_with (first | ((with_reducible refine gB_ (N := 16) rfl ?_); refine Kd.N_lit (Kd.slice 3 (Kd.int .i64)) _ 27 ?hg (N' := 16) ?hd (xs := ([] : List (List Int))) (inner := []) (ok := (fun k_ => (w.heap.size ≤ k_) ∧ some k_ ≠ (u3 : Value).ownBlock)) (okp := (fun k_ => (w.heap.size ≤ k_) ∧ some k_ ≠ (u3 : Value).ownBlock)) ?hr ?hp (fun _ hk => hk) ((show ∀ k_, wr.heap.size ≤ k_ → (fun k_ => (w.heap.size ≤ k_) ∧ some k_ ≠ (u3 : Value).ownBlock) k_ from fun k_ hk => ⟨(Nat.le_trans (bF_ hB_) hk), Kd.fresh' (Kd.N_lt (by (with_reducible repeat (first | apply Kd.N_alloc | apply Kd.N_drewN | apply Kd.N_drew)); exact HO_3.out)) k_ hk⟩) _ (nA_ _)) (Below.refl _ _) (nA_ _) (by simp) ?_; (case hd => rfl); (case hg => rfl); (case hr => first | (go_simp; done) | (go_simp; rfl)); (case hp => exact (Reps.none _ _)); intro v435 w8 ho9 hb hg_ hnew_; clear hg_ hnew_; (first | rw [← Ny434.out] at ho9 | (simp only [Int.reduceToNat] at ho9; rw [← Ny434.out] at ho9)); replace HO_3 := A_ (Kd.N_elder' (by (with_reducible repeat (first | apply Kd.N_alloc | apply Kd.N_drewN | apply Kd.N_drew)); exact HO_3.out) (Kd.N_base ho9) hb); have HO436 := A_ (Kd.N_lower ho9 (bF_ hB_)); replace HB := b1_ hb; clear hb ho9; obtain ⟨Ao10, co10, eo10⟩ := Kd.N_slice HO_3.out; subst eo10))
    go_loopg [5, 19] k1 (fun kq v5 v19 w' => ∃ (x5_2 : List (List Int)) (x19_2 : Int), v19 = .int .i64 x19_2 ∧ Aside0 (Z46.l1 kq a0 x4_1 x5_2 x3_1 (x3_1.length : Int) x19_2 = some r) ∧ Aside0 (kq ≤ k1) ∧ Aside0 (Kd.N (Kd.slice 3 (Kd.int .i64)) 27 w' w.heap.size (fun k_ => (w.heap.size ≤ k_) ∧ some k_ ≠ ((.slice Ao10 x3_1.length co10) : Value).ownBlock) v5 x5_2) ∧ Aside0 (Kd.N (Kd.slice 3 (Kd.int .i64)) 27 w' w.heap.size (fun k_ => (w.heap.size ≤ k_) ∧ some k_ ≠ (v5 : Value).ownBlock) (.slice Ao10 x3_1.length co10) x3_1) ∧ Aside0 (Below w.heap.size w w'))
    case atStart => exact ⟨(y434), (0), qc_, H', ⟨nA_ _⟩, ⟨by (with_reducible repeat (first | apply Kd.N_alloc | apply Kd.N_drewN | apply Kd.N_drew)); exact HO436.out⟩, ⟨by (with_reducible repeat (first | apply Kd.N_alloc | apply Kd.N_drewN | apply Kd.N_drew)); exact HO_3.out⟩, ⟨hB_⟩⟩
    case round =>
     clear H'
     obtain ⟨x5_2, x19_2, rfl, HA, HK2, HO_5, HO_17, HB⟩ := hrel
     cases gk with
     | zero => exact absurd HA.out (by simp [Z46.l1])
     | succ k2 =>
      have H := HA.out
      clear HA
      simp only [Z46.l1] at H
      by_cases c11 : x19_2 < (x3_1.length : Int)
      ·rw [if_pos c11] at H
       have c11b0 := oC_ c11
       clear c11
       have c12 := cp_ H
       replace H := ca_ H
       have c12b0 := oC_ c12
       clear c12
       have c13 := cp_ H
       replace H := ca_ H
       have c13b0 := oC_ c13
       clear c13
       have H' := A_ H
       clear H
       have p437 : 0 ≤ (x19_2 : Int) := oB_ qe_
       have q437 : x19_2 < (x3_1.length : Int) := oB_ qe_
       obtain ⟨ad437, A437_0, c437_0, e437, hx437_0, hl437_0, hi437_0⟩ := at_L1 (Kd.N_reads' HO_17.out).2.2 x19_2 p437 q437
       cases e437
       obtain ⟨ce437, hce437, hMe437, hcc437⟩ := Kd.N_get HO_17.out [] x19_2 p437 (by first | exact q437 | exact oB_ qe_ | (have e_ := (Kd.N_reads' HO_17.out).1; omega))
       obtain ⟨ua437_0, uc437_0, rfl, ul437_0, ge437_0⟩ := Kd.FK_slice_open hMe437
       have hv437_0 := hcc437 0 _ rfl
       rw [Nat.add_zero, show ((Kd.slice 3 (Kd.int .i64))).sz = 1 from rfl, Nat.mul_one] at hv437_0
       replace hv437_0 := Option.some.inj (hv437_0.symm.trans hx437_0)
       injection hv437_0 with hva_ hvn_ hvc_
       rw [hva_] at ge437_0
       rw [hvc_] at ul437_0
       have HL437_0 := A_ (show Kd.V (Kd.int .i64) 3 _ w.heap.size _ _ (rd_L1 x3_1 x19_2) from Kd.V_mk ul437_0 ge437_0)
       clear hva_ hvn_ hvc_ ge437_0 ul437_0
       clear hcc437 hce437
       have HR437_0 := A_ hi437_0
       have HC437_0 := A_ hl437_0
       clear hi437_0 hl437_0
       replace p437 := eq_true p437
       replace q437 := eq_true q437
       go_wp2
       go_loopg [5, 8] k2 (fun kq v5 v8 w' => ∃ (x5_3 : List (List Int)) (x8_3 : Int), v8 = .int .i64 x8_3 ∧ Aside0 (Z46.l2 kq a0 x4_1 x5_3 (rd_L1 x3_1 x19_2) x8_3 x3_1 (x3_1.length : Int) x19_2 = some r) ∧ Aside0 (kq ≤ k2) ∧ Aside0 (Kd.N (Kd.slice 3 (Kd.int .i64)) 27 w' w.heap.size (fun k_ => (w.heap.size ≤ k_) ∧ some k_ ≠ ((.slice (some ad437) x3_1.length co10) : Value).ownBlock) v5 x5_3) ∧ Aside0 (Kd.V (Kd.int .i64) 3 w' w.heap.size (fun k_ => (w.heap.size ≤ k_) ∧ some k_ ≠ (v5 : Value).ownBlock ∧ some k_ ≠ ((.slice (some ad437) x3_1.length co10) : Value).ownBlock) (.slice A437_0 (rd_L1 x3_1 x19_2).length c437_0) (rd_L1 x3_1 x19_2)) ∧ Aside0 (Kd.N (Kd.slice 3 (Kd.int .i64)) 27 w' w.heap.size (fun k_ => (w.heap.size ≤ k_) ∧ some k_ ≠ (v5 : Value).ownBlock) (.slice (some ad437) x3_1.length co10) x3_1) ∧ Aside0 (Below w.heap.size w w'))
       case atStart => exact ⟨(x5_2), (0), qc_, H', ⟨nA_ _⟩, ⟨by (with_reducible repeat (first | apply Kd.N_alloc | apply Kd.N_drewN | apply Kd.N_drew)); exact HO_5.out⟩, ⟨by (with_reducible repeat (first | apply Kd.V_alloc | apply Kd.V_drewN | apply Kd.V_drew)); exact Kd.V_mono HL437_0.out (fun _ hk => ⟨hk.1.1, ⟨hk.1.2, hk.2⟩⟩)⟩, ⟨by (with_reducible repeat (first | apply Kd.N_alloc | apply Kd.N_drewN | apply Kd.N_drew)); exact HO_17.out⟩, ⟨hB_⟩⟩
       case round =>
        clear H'
        obtain ⟨x5_3, x8_3, rfl, HA, HK3, HO_5, HO_7, HO_17, HB⟩ := hrel
        cases gk with
        | zero => exact absurd HA.out (by simp [Z46.l2])
        | succ k3 =>
         have H := HA.out
         clear HA
         simp only [Z46.l2] at H
         by_cases c14 : x8_3 < a0
         ·rw [if_pos c14] at H
          have c14b0 := oC_ c14
          clear c14
          obtain ⟨t438, A15, H⟩ := bi_ H
          by_cases c16 : t438 = true
          ·subst c16
           rw [if_pos rfl] at H
           have H' := A_ H
           clear H
           go_wp2_with (first | ((with_reducible refine gA_ (f := 53) rfl ?_); refine gL_ (some 30) Tryz.func53 #[.slice A437_0 (rd_L1 x3_1 x19_2).length c437_0, .int .i64 x8_3] rfl qa_ ?_; (with_reducible refine (Z1.calls k3 _ _ (rd_L1 x3_1 x19_2) x8_3 true _ (cw_ ((Kd.V_reads' HO_7.out).2.2)) ((Kd.V_reads' HO_7.out).2.1) A15.out).mono ?_); rintro e w' ⟨rfl, ⟨nd, rfl⟩⟩; refine ⟨_, rfl, ?_⟩))
           go_roundg k3
           case measure => have := HK1.out; have := HK2.out; have := HK3.out; omega
           case rel => exact ⟨(x5_3), (wrap64 (x8_3 + 1)), qc_, H', ⟨by have := HK1.out; have := HK2.out; have := HK3.out; omega⟩, ⟨by (with_reducible repeat (first | apply Kd.N_alloc | apply Kd.N_drewN | apply Kd.N_drew)); exact HO_5.out⟩, ⟨by (with_reducible repeat (first | apply Kd.V_alloc | apply Kd.V_drewN | apply Kd.V_drew)); exact HO_7.out⟩, ⟨by (with_reducible repeat (first | apply Kd.N_alloc | apply Kd.N_drewN | apply Kd.N_drew)); exact HO_17.out⟩, ⟨hB_⟩⟩
          ·replace c16 := Bool.eq_false_iff.mpr c16
           subst c16
           have H1 : ((Z47.f (rd_L1 x3_1 x19_2)).bind fun t439 => (if t439.length < 17592186044416 then (if x5_3.length < 5864062014805 then (Z46.l2 k3 a0 x4_1 (x5_3 ++ [(t439 ++ [x8_3])]) (rd_L1 x3_1 x19_2) (wrap64 (x8_3 + 1)) x3_1 (x3_1.length : Int) x19_2) else (none)) else (none))) = some r := by rw [if_neg (show ¬ (false = true) by decide)] at H; exact H
           clear H
           have H := H1
           clear H1
           obtain ⟨t439, A17, H⟩ := bi_ H
           have c18 := cp_ H
           replace H := ca_ H
           have LMc18 := A_ c18
           clear c18
           obtain ⟨y442, hy442⟩ : ∃ y_ : List Int, y_ = (t439 ++ [x8_3]) := ⟨_, rfl⟩
           replace H : (if x5_3.length < 5864062014805 then (Z46.l2 k3 a0 x4_1 (x5_3 ++ [y442]) (rd_L1 x3_1 x19_2) (wrap64 (x8_3 + 1)) x3_1 (x3_1.length : Int) x19_2) else (none)) = some r := by first | (rw [hy442]; exact H) | exact H
           have Ny442 := A_ hy442
           clear hy442
           have c19 := cp_ H
           replace H := ca_ H
           have LMc19 := A_ c19
           clear c19
           obtain ⟨y445, hy445⟩ : ∃ y_ : List (List Int), y_ = (x5_3 ++ [y442]) := ⟨_, rfl⟩
           replace H : (Z46.l2 k3 a0 x4_1 y445 (rd_L1 x3_1 x19_2) (wrap64 (x8_3 + 1)) x3_1 (x3_1.length : Int) x19_2) = some r := by first | (rw [hy445]; exact H) | exact H
           have Ny445 := A_ hy445
           clear hy445
           have H' := A_ H
           clear H
           go_wp2_with (first | ((with_reducible refine gA_ (f := 53) rfl ?_); refine gL_ (some 30) Tryz.func53 #[.slice A437_0 (rd_L1 x3_1 x19_2).length c437_0, .int .i64 x8_3] rfl qa_ ?_; (with_reducible refine (Z1.calls k3 _ _ (rd_L1 x3_1 x19_2) x8_3 false _ (cw_ ((Kd.V_reads' HO_7.out).2.2)) ((Kd.V_reads' HO_7.out).2.1) A15.out).mono ?_); rintro e w' ⟨rfl, ⟨nd, rfl⟩⟩; refine ⟨_, rfl, ?_⟩) | ((with_reducible refine gA_ (f := 54) rfl ?_); refine gL_ (some 34) Tryz.func54 #[.slice A437_0 (rd_L1 x3_1 x19_2).length c437_0] rfl qa_ ?_; (with_reducible refine (Z47.calls _ _ (rd_L1 x3_1 x19_2) t439 _ (cw_ ((Kd.V_reads' HO_7.out).2.2)) ((Kd.V_reads' HO_7.out).2.1) A17.out).mono ?_); rintro e w20 ⟨v440, rfl, ho0, hb⟩; refine ⟨_, rfl, ?_⟩; replace HO_5 := A_ (Kd.N_elder' (by (with_reducible repeat (first | apply Kd.N_alloc | apply Kd.N_drewN | apply Kd.N_drew)); exact HO_5.out) (Kd.R_base ho0) hb); replace HO_7 := A_ (Kd.V_elder' (by (with_reducible repeat (first | apply Kd.V_alloc | apply Kd.V_drewN | apply Kd.V_drew)); exact HO_7.out) (Kd.R_base ho0) hb); replace HO_17 := A_ (Kd.N_elder' (by (with_reducible repeat (first | apply Kd.N_alloc | apply Kd.N_drewN | apply Kd.N_drew)); exact HO_17.out) (Kd.R_base ho0) hb); have HO441 := A_ (rE_ (Kd.R_newM (M := fun k_ => (w.heap.size ≤ k_)) ho0 (bF_ hB_) (fun k_ h_ => h_)) (bF_ hB_)); replace HB := b1_ hb; clear hb ho0) | ((with_reducible refine gate_builtin (b := .append) (xs := #[.tmp 34, .tmp 36]) rfl ?_); at_builtin; refine Kd.R_append (Kd.int .i64) (w0 := w) w.heap.size rfl (.tmp 34) (.tmp 36) 27 3 (.int .i64 0) 8 rfl Tryz.underlying27 info3 rfl (by decide) (by omega) v440 t439 x8_3 [.int .i64 x8_3] (fun k_ => (w.heap.size ≤ k_)) (fun _ => False) rfl rfl ?aP (fun _ hk => hk.elim) ?aF ?aO ?aB ?aS ?aL ?_; (case aP => exact rfl); (case aB => exact hB_); (case aF => exact (fun k_ hk => (Nat.le_trans (bF_ hB_) hk))); (case aO => exact (rw_ (Kd.R_mono HO441.out (fun _ hk => hk.1)))); (case aS => exact (bF_ hB_)); (case aL => have := LMc18.out; omega); intro v443 w21 ho hb hg hat; rw [← Ny442.out] at ho; replace HO_5 := A_ (Kd.N_afterv (ok := (fun k_ => (w.heap.size ≤ k_) ∧ some k_ ≠ (.slice (some ad437) x3_1.length co10 : Value).ownBlock)) (by (with_reducible repeat (first | apply Kd.N_alloc | apply Kd.N_drewN | apply Kd.N_drew)); exact HO_5.out) hg hat); replace HO_7 := A_ (Kd.V_afterv (ok := (fun k_ => (w.heap.size ≤ k_) ∧ some k_ ≠ (u5 : Value).ownBlock ∧ some k_ ≠ (.slice (some ad437) x3_1.length co10 : Value).ownBlock)) (by (with_reducible repeat (first | apply Kd.V_alloc | apply Kd.V_drewN | apply Kd.V_drew)); exact HO_7.out) hg hat); replace HO_17 := A_ (Kd.N_afterv (ok := (fun k_ => (w.heap.size ≤ k_) ∧ some k_ ≠ (u5 : Value).ownBlock)) (by (with_reducible repeat (first | apply Kd.N_alloc | apply Kd.N_drewN | apply Kd.N_drew)); exact HO_17.out) hg hat); replace HB := A_ hb; have HO444 := A_ ho; clear HO441; clear ho hb hg hat; obtain ⟨Ao23, co23, eo23⟩ := Kd.R_slice HO444.out; subst eo23) | ((with_reducible refine gate_builtin (b := .append) (xs := #[.tmp 32, .tmp 38]) rfl ?_); at_builtin; refine Kd.N_append (Kd.slice 3 (Kd.int .i64)) (w0 := w) w.heap.size rfl (.tmp 32) (.tmp 38) 22 27 (.slice none 0 0) 24 rfl Tryz.underlying22 info27 rfl (by decide) (by omega) u5 x5_3 y442 [.slice Ao23 y442.length co23] (fun k_ => (w.heap.size ≤ k_) ∧ some k_ ≠ (.slice (some ad437) x3_1.length co10 : Value).ownBlock) (fun k_ => ((fun k_ => (w.heap.size ≤ k_) ∧ some k_ ≠ (.slice (some ad437) x3_1.length co10 : Value).ownBlock)) k_ ∧ some k_ ≠ (u5 : Value).ownBlock) rfl rfl ?aP (fun _ hk => hk) ?aF ?aO ?aB ?aS ?aL ?_; (case aP => exact (Kd.FK_slice_mk (Kd.R_reads' (Kd.R_mono (ok' := (fun k_ => ((fun k_ => (w.heap.size ≤ k_) ∧ some k_ ≠ (.slice (some ad437) x3_1.length co10 : Value).ownBlock)) k_ ∧ some k_ ≠ (u5 : Value).ownBlock)) (Kd.R_apart' (Kd.R_apart' (HO444.out) (Kd.N_typed HO_17.out) (by decide)) (Kd.N_typed HO_5.out) (by decide)) (fun k_ hk => ⟨⟨hk.1.1, hk.1.2⟩, hk.2⟩))).2.1 (Kd.R_F (Kd.R_mono (ok' := (fun k_ => ((fun k_ => (w.heap.size ≤ k_) ∧ some k_ ≠ (.slice (some ad437) x3_1.length co10 : Value).ownBlock)) k_ ∧ some k_ ≠ (u5 : Value).ownBlock)) (Kd.R_apart' (Kd.R_apart' (HO444.out) (Kd.N_typed HO_17.out) (by decide)) (Kd.N_typed HO_5.out) (by decide)) (fun k_ hk => ⟨⟨hk.1.1, hk.1.2⟩, hk.2⟩))))); (case aB => exact hB_); (case aF => exact (fun k_ hk => ⟨(Nat.le_trans (bF_ hB_) hk), Kd.fresh' (Kd.N_lt (by (with_reducible repeat (first | apply Kd.N_alloc | apply Kd.N_drewN | apply Kd.N_drew)); exact HO_17.out)) k_ hk⟩)); (case aO => exact (by (with_reducible repeat (first | apply Kd.N_alloc | apply Kd.N_drewN | apply Kd.N_drew)); exact Kd.N_mono HO_5.out (fun _ hk => ⟨hk.1.1, hk.1.2⟩))); (case aS => exact (bF_ hB_)); (case aL => have := LMc19.out; omega); intro v446 w22 ho hb hg hat; rw [← Ny445.out] at ho; replace HO_7 := A_ (Kd.V_afterv (ok := (fun k_ => (w.heap.size ≤ k_) ∧ some k_ ≠ (.slice (some ad437) x3_1.length co10 : Value).ownBlock ∧ some k_ ≠ (.slice Ao23 y442.length co23 : Value).ownBlock)) (by (with_reducible repeat (first | apply Kd.V_alloc | apply Kd.V_drewN | apply Kd.V_drew)); exact Kd.V_mono HO_7.out (fun _ hk => ⟨⟨hk.1.1, ⟨hk.1.2.2, hk.2⟩⟩, hk.1.2.1⟩)) hg hat); replace HO_17 := A_ (Kd.N_afterv (ok := (fun k_ => (w.heap.size ≤ k_) ∧ some k_ ≠ (.slice Ao23 y442.length co23 : Value).ownBlock)) (by (with_reducible repeat (first | apply Kd.N_alloc | apply Kd.N_drewN | apply Kd.N_drew)); exact Kd.N_mono HO_17.out (fun _ hk => ⟨⟨hk.1.1, hk.2⟩, hk.1.2⟩)) hg hat); replace HB := A_ hb; have HO447 := A_ ho; clear HO_5 HO444; clear ho hb hg hat))
           go_roundg k3
           case measure => have := HK1.out; have := HK2.out; have := HK3.out; omega
           case rel => exact ⟨(y445), (wrap64 (x8_3 + 1)), qc_, H', ⟨by have := HK1.out; have := HK2.out; have := HK3.out; omega⟩, ⟨by (with_reducible repeat (first | apply Kd.N_alloc | apply Kd.N_drewN | apply Kd.N_drew)); exact HO447.out⟩, ⟨by (with_reducible repeat (first | apply Kd.V_alloc | apply Kd.V_drewN | apply Kd.V_drew)); exact Kd.V_mono HO_7.out (fun _ hk => ⟨hk.1.1, ⟨hk.2, hk.1.2.1⟩⟩)⟩, ⟨by (with_reducible repeat (first | apply Kd.N_alloc | apply Kd.N_drewN | apply Kd.N_drew)); exact Kd.N_mono HO_17.out (fun _ hk => ⟨hk.1.1, hk.2⟩)⟩, ⟨hB_⟩⟩
         ·rw [if_neg c14] at H
          have c14b0 := oD_ c14
          clear c14
          have H' := A_ H
          clear H
          go_wp2
          go_roundg k3
          case measure => have := HK1.out; have := HK2.out; have := HK3.out; omega
          case rel => exact ⟨(x5_3), (wrap64 (x19_2 + 1)), qc_, H', ⟨by have := HK1.out; have := HK2.out; have := HK3.out; omega⟩, ⟨by (with_reducible repeat (first | apply Kd.N_alloc | apply Kd.N_drewN | apply Kd.N_drew)); exact HO_5.out⟩, ⟨by (with_reducible repeat (first | apply Kd.N_alloc | apply Kd.N_drewN | apply Kd.N_drew)); exact HO_17.out⟩, ⟨hB_⟩⟩
      ·rw [if_neg c11] at H
       have c11b0 := oD_ c11
       clear c11
       have H' := A_ H
       clear H
       go_wp2
       go_roundg k2
       case measure => have := HK1.out; have := HK2.out; omega
       case rel => exact ⟨(x5_2), (wrap64 (x4_1 + 1)), qc_, H', ⟨by have := HK1.out; have := HK2.out; omega⟩, ⟨by (with_reducible repeat (first | apply Kd.N_alloc | apply Kd.N_drewN | apply Kd.N_drew)); exact Kd.N_mono HO_5.out (fun _ hk => hk.1)⟩, ⟨hB_⟩⟩
   ·rw [if_neg c7] at H
    have c7b0 := oD_ c7
    clear c7
    obtain rfl := Option.some.inj H
    go_wp2
    go_ret
    exact ⟨_, qb_, by (with_reducible repeat (first | apply Kd.N_alloc | apply Kd.N_drewN | apply Kd.N_drew)); exact HO_3.out, hB_⟩
end Go.Proofs.YtoijcallajegfaaGreat.A
end
section
namespace Go.Proofs.YtoijcallajegfaaGreat.A
open Go.RowKit Go.Proofs.YtoijcallajegfaaGreatW.PrintWords Go.Proofs.YtoijcallajegfaaGreatW.PrintLast Go.Proofs.YtoijcallajegfaaGreatW.PrintMore
attribute [local go_sem] max2_int min2_int max_two min_two max_three min_three max_four min_four
set_option linter.unusedVariables false
set_option linter.unusedSimpArgs false
def Z61.l0 : Nat → List Int → List Bool → Int → Option Bool
 | 0, _, _, _ => none
 | k + 1, l, s, i => if i < (l.length : Int) then (if 0 ≤ i then (if rd l i < 0 then some false else (if rd l i ≥ (l.length : Int) then some false else (if rdOf false s (rd l i) = true then some false else Z61.l0 k l (s.set (rd l i).toNat true) (wrap64 (i + 1))))) else none) else some true
def Z61.f (k : Nat) (l0 : List Int) : Option Bool := if (l0.length : Int) > 24 then some false else Z61.l0 k l0 (List.replicate 24 false) 0
theorem Z61.mono_l : ∀ k, (∀ y0 y1 y2, LeO (Z61.l0 k y0 y1 y2) (Z61.l0 (k + 1) y0 y1 y2))
 | 0 => fun _ _ _ r h => by simp [Z61.l0] at h
 | k + 1 => by
  have ih0 := Z61.mono_l k
  ·intro y0 y1 y2
   unfold Z61.l0
   repeat' first|exact ih0 _ _ _|exact lo_|refine LeO.ite ?_ ?_|refine LeO.bind ?_ (fun _ => ?_)
theorem Z61.mono : ∀ a0 k, LeO (Z61.f k a0) (Z61.f (k + 1) a0) := by
 intro a0 k
 unfold Z61.f
 exact LeO.ite (LeO.refl _) (Z61.mono_l k _ _ _)
def Z24 : Array Value := #[Value.bool false, Value.bool false, Value.bool false, Value.bool false, Value.bool false, Value.bool false, Value.bool false, Value.bool false, Value.bool false, Value.bool false, Value.bool false, Value.bool false, Value.bool false, Value.bool false, Value.bool false, Value.bool false, Value.bool false, Value.bool false, Value.bool false, Value.bool false, Value.bool false, Value.bool false, Value.bool false, Value.bool false]
theorem row_same (w : World) (g : Nat) (t : TypeId) (cur : Array Value) (hg : w.heap[g]? = some (.cells cur t (0, 0))) : w.setRow g cur = w := by
 have hv : ∀ h, w.heap[g]'h = .cells cur t (0, 0) := fun h => (Array.getElem?_eq_some_iff.1 hg).2
 unfold World.setRow
 cases w with
 | mk heap tape drawn os output =>
  congr 1
  apply Array.ext
  ·simp
  ·intro k h1 h2
   simp only [Array.getElem_modify]
   split
   ·rename_i hk; subst hk; simp at hv; simp [hv h2]
   ·rfl
theorem wpList_val {P : Program} {ops : Array Oper} {rest : List Oper} {o : Oper} {a : Act} {Q : Exit → Act → World → Prop} {w : World} (hg : o.guard = none) (v : Value) (w1 : World) (hrun : (execOp a.eval o).run P w = .ok (.value v) w1) (h : wpList P ops Q rest (a.put o.dst v) w1) : wpList P ops Q (o :: rest) a w :=
 wpList_plain hg fun K hK => by unfold Oper.wp; rw [hrun]; exact hK _ _ h
theorem perm_start (w : World) : Kd.R Kd.bool 106 (w.alloc (.cells Z24 106)) w.heap.size (fun _ => True) (.slice (some ⟨w.heap.size, 0, none⟩) 24 24) (List.replicate 24 false) := by
 have h := World.ownsRow_lit (base := w.heap.size) (e := 106) (size := 1) w Z24 24 (nA_ _) (by unfold maxLen; omega) rfl
 exact Kd.R_of_own (xs := List.replicate 24 false) h (fun _ _ => trivial)
set_option maxHeartbeats 8000000 in
set_option maxRecDepth 100000 in
theorem Z61.calls (k : Nat) (A0 : Option Addr) (c0 : Nat) (l0 : List Int) (r : Bool) (w : World) (hr0 : Kd.C (Kd.int .i64) w A0 l0.length l0) (hc0 : l0.length ≤ c0) (h : Z61.f k l0 = some r) :
  Calls Tryz.prog 98 #[.slice A0 l0.length c0] w fun e w' => e = .returned (.bool r) ∧ Below w.heap.size w w' := by
 have HR0 := A_ hr0
 have HC0 := A_ hc0
 clear hr0 hc0
 have hst := perm_start w
 have HST := A_ hst
 clear hst
 have hb0 : Below w.heap.size w (w.alloc (.cells Z24 106)) := (Below.refl _ _).alloc (nA_ _) _
 have HB0 := A_ hb0
 clear hb0
 unfold Z61.f at h
 by_cases c2 : (l0.length : Int) > 24
 ·rw [if_pos c2] at h
  have c2b0 : decide (24 < (l0.length : Int)) = true := oC_ c2
  have c2b1 : decide (24 < l0.length) = true := oC_ (by omega)
  clear c2
  obtain rfl := Option.some.inj h
  go_enter Tryz.func98, Tryz.ntmps98
  go_upto_region 1 with (fail)
  refine wp_region_lit ?_
  refine wpList_val rfl (.agg Z24) w (by as_aux_lemma => kernel_rfl) ?_
  refine wpList_val rfl (.pointer (some ⟨w.heap.size, 0, none⟩)) (w.alloc (.cells Z24 106)) (by as_aux_lemma => kernel_rfl) ?_
  refine wpList_store_row rfl 106 (.tmp 3) (.tmp 6) rfl w.heap.size Z24 rfl rfl 106 Z24 (heap_alloc_new _ _) (by as_aux_lemma => kernel_rfl) rfl (by as_aux_lemma => kernel_rfl) ?_
  rw [row_same _ _ _ _ (heap_alloc_new _ _)]
  generalize w.alloc (.cells Z24 106) = wq at HB0 ⊢
  generalize Value.agg Z24 = ag
  go_wp2
  go_ret
  exact ⟨rfl, HB0.out⟩
 ·rw [if_neg c2] at h
  have hn : l0.length ≤ 24 := by omega
  have HN := A_ hn
  clear hn
  have c2b0 : decide (24 < (l0.length : Int)) = false := oD_ c2
  have c2b1 : decide (24 < l0.length) = false := oD_ (by omega)
  clear c2
  have H' := A_ h
  clear h
  go_enter Tryz.func98, Tryz.ntmps98
  go_upto_region 1 with (fail)
  refine wp_region_lit ?_
  refine wpList_val rfl (.agg Z24) w (by as_aux_lemma => kernel_rfl) ?_
  refine wpList_val rfl (.pointer (some ⟨w.heap.size, 0, none⟩)) (w.alloc (.cells Z24 106)) (by as_aux_lemma => kernel_rfl) ?_
  refine wpList_store_row rfl 106 (.tmp 3) (.tmp 6) rfl w.heap.size Z24 rfl rfl 106 Z24 (heap_alloc_new _ _) (by as_aux_lemma => kernel_rfl) rfl (by as_aux_lemma => kernel_rfl) ?_
  rw [row_same _ _ _ _ (heap_alloc_new _ _)]
  generalize w.alloc (.cells Z24 106) = wq at HB0 HST ⊢
  generalize Value.agg Z24 = ag
  go_wp2
  go_loopg [12] k (fun kq v12 w' => ∃ (s : List Bool) (i : Int), v12 = .int .i64 i ∧ Aside0 (Z61.l0 kq l0 s i = some r) ∧ Aside0 (kq ≤ k) ∧ Aside0 (s.length = 24) ∧ Aside0 (Kd.R Kd.bool 106 w' w.heap.size (fun _ => True) (.slice (some ⟨w.heap.size, 0, none⟩) 24 24) s) ∧ Aside0 (Below w.heap.size w w'))
  case atStart => exact ⟨List.replicate 24 false, 0, rfl, H', ⟨nA_ _⟩, ⟨rfl⟩, HST, HB0⟩
  case round =>
   clear H' HST HB0
   obtain ⟨s, i, rfl, HA, HK1, HS, HO, HB⟩ := hrel
   cases gk with
   | zero => exact absurd HA.out (by simp [Z61.l0])
   | succ k1 =>
    have H := HA.out
    clear HA
    simp only [Z61.l0] at H
    by_cases c3 : i < (l0.length : Int)
    ·rw [if_pos c3] at H
     have c4 := cp_ H
     replace H := ca_ H
     have c3b0 := oC_ c3
     have c4b0 := oC_ c4
     obtain ⟨ad, e0, hx⟩ := Kd.at_int HR0.out i c4 c3
     cases e0
     replace hx := (HB.out.cell (World.block_lt_of_cell? w _ hx)).trans hx
     replace c3 := eq_true c3
     replace c4 := eq_true c4
     by_cases c5 : rd l0 i < 0
     ·rw [if_pos c5] at H
      have c5b0 := oC_ c5
      clear c5
      obtain rfl := Option.some.inj H
      go_wp2
      go_ret
      exact ⟨rfl, HB.out⟩
     ·rw [if_neg c5] at H
      have c5b0 := oD_ c5
      by_cases c6 : rd l0 i ≥ (l0.length : Int)
      ·rw [if_pos c6] at H
       have c6b0 : decide ((l0.length : Int) ≤ rd l0 i) = true := oC_ c6
       clear c5 c6
       obtain rfl := Option.some.inj H
       go_wp2
       go_ret
       exact ⟨rfl, HB.out⟩
      ·rw [if_neg c6] at H
       have c6b0 : decide ((l0.length : Int) ≤ rd l0 i) = false := oD_ c6
       have p1 : 0 ≤ rd l0 i := by omega
       have p2 : rd l0 i < ((24 : Nat) : Int) := by have := HN.out; omega
       have p2' : rd l0 i < 24 := p2
       obtain ⟨hy, hz⟩ := Kd.R_celln false HO.out (rd l0 i) p1 p2
       have p1b : decide (0 ≤ rd l0 i) = true := oC_ p1
       have p2b : decide (rd l0 i < 24) = true := oC_ p2'
       clear c5 c6
       by_cases c7 : rdOf false s (rd l0 i) = true
       ·rw [if_pos c7] at H
        rw [c7] at hy
        clear c7
        obtain rfl := Option.some.inj H
        go_wp2
        go_ret
        exact ⟨rfl, HB.out⟩
       ·rw [if_neg c7] at H
        replace c7 := Bool.eq_false_iff.mpr c7
        rw [c7] at hy
        clear c7
        have H' := A_ H
        clear H
        have HP := Kd.R_putg HO.out (rd l0 i) true
        have HP' := A_ HP
        clear HP
        go_wp2
        go_roundg k1
        case measure => have := HK1.out; omega
        case rel => exact ⟨s.set (rd l0 i).toNat true, wrap64 (i + 1), rfl, H', ⟨by have := HK1.out; omega⟩, ⟨by rw [List.length_set]; exact HS.out⟩, ⟨HP'.out.1⟩, ⟨bD_ HB.out (nA_ _)⟩⟩
    ·rw [if_neg c3] at H
     have c3b0 := oD_ c3
     clear c3
     obtain rfl := Option.some.inj H
     go_wp2
     go_ret
     exact ⟨rfl, HB.out⟩
end Go.Proofs.YtoijcallajegfaaGreat.A
end
section
namespace Go.Proofs.YtoijcallajegfaaGreat.A
open Go.RowKit Go.Proofs.YtoijcallajegfaaGreatW.PrintWords Go.Proofs.YtoijcallajegfaaGreatW.PrintLast Go.Proofs.YtoijcallajegfaaGreatW.PrintMore
attribute [local go_sem] max2_int min2_int max_two min_two max_three min_three max_four min_four
set_option linter.unusedVariables false
set_option linter.unusedSimpArgs false
mutual
def Z9.j0 : Nat → List Int → List Int → Bool → Option (Bool)
 | 0, _, _, _ => none
 | k + 1, x0, x1, x29 => if x29 = true then (some false) else (if 0 ≤ (x0.length : Int) then (if ((x0.length : Int) : Int).toNat ≤ 281474976710656 then ((some (List.replicate ((x0.length : Int) : Int).toNat false : List Bool)).bind fun y450 => (if 0 < (y450.length : Int) then (Z9.l0 k x0 x1 (y450.set (0 : Int).toNat true) (([0] : List Int)) 0) else (none))) else (none)) else (none))
def Z9.l0 : Nat → List Int → List Int → List Bool → List Int → Int → Option (Bool)
 | 0, _, _, _, _, _ => none
 | k + 1, x0, x1, x5, x6, x7 => if x7 < (x6.length : Int) then (if 0 ≤ x7 then (if 0 ≤ (rd x6 x7) then (if (rd x6 x7) < (x0.length : Int) then (if (rd x6 x7) < (x1.length : Int) then ((some (([rd x0 (rd x6 x7), rd x1 (rd x6 x7)] : List Int) : List Int)).bind fun y461 => (Z9.l1 k x0 x1 x5 x6 x7 y461 (y461.length : Int) 0)) else (none)) else (none)) else (none)) else (none)) else (some ((x6.length : Int) == (x0.length : Int)))
def Z9.l1 : Nat → List Int → List Int → List Bool → List Int → Int → List Int → Int → Int → Option (Bool)
 | 0, _, _, _, _, _, _, _, _ => none
 | k + 1, x0, x1, x5, x6, x7, x56, x57, x58 => if x58 < x57 then (if 0 ≤ x58 then (if x58 < (x56.length : Int) then (if 0 ≤ (rd x56 x58) then (if (rd x56 x58) < (x5.length : Int) then (if (rdOf false x5 (rd x56 x58) = true) then (Z9.l1 k x0 x1 x5 x6 x7 x56 x57 (wrap64 (x58 + 1))) else (if x6.length < 17592186044416 then (Z9.l1 k x0 x1 (x5.set ((rd x56 x58) : Int).toNat true) (x6 ++ [rd x56 x58]) x7 x56 x57 (wrap64 (x58 + 1))) else (none))) else (none)) else (none)) else (none)) else (none)) else (Z9.l0 k x0 x1 x5 x6 (wrap64 (x7 + 1)))
end
def Z9.f (k : Nat) (l0 : List Int) (l1 : List Int) : Option (Bool) := (Z61.f k l0).bind fun t448 => (if t448 = true then ((Z61.f k l1).bind fun t449 => (if t449 = true then (if (l0.length : Int) = (l1.length : Int) then (Z9.j0 k l0 l1 ((l0.length : Int) == 0)) else (Z9.j0 k l0 l1 true)) else (Z9.j0 k l0 l1 true))) else (Z9.j0 k l0 l1 true))
theorem Z9.mono_l : ∀ k, (∀ y0 y1 y2, LeO (Z9.j0 k y0 y1 y2) (Z9.j0 (k + 1) y0 y1 y2)) ∧ (∀ y0 y1 y2 y3 y4, LeO (Z9.l0 k y0 y1 y2 y3 y4) (Z9.l0 (k + 1) y0 y1 y2 y3 y4)) ∧ (∀ y0 y1 y2 y3 y4 y5 y6 y7, LeO (Z9.l1 k y0 y1 y2 y3 y4 y5 y6 y7) (Z9.l1 (k + 1) y0 y1 y2 y3 y4 y5 y6 y7))
 | 0 => ⟨fun _ _ _ r h => by simp [Z9.j0] at h, fun _ _ _ _ _ r h => by simp [Z9.l0] at h, fun _ _ _ _ _ _ _ _ r h => by simp [Z9.l1] at h⟩
 | k + 1 => by
  obtain ⟨ih0, ih1, ih2⟩ := Z9.mono_l k
  refine ⟨?_, ?_, ?_⟩
  ·intro y0 y1 y2
   unfold Z9.j0
   repeat' first|exact ih0 _ _ _|exact ih1 _ _ _ _ _|exact ih2 _ _ _ _ _ _ _ _|exact Z61.mono _ _|exact lo_|refine LeO.ite ?_ ?_|refine LeO.bind ?_ (fun _ => ?_)
  ·intro y0 y1 y2 y3 y4
   unfold Z9.l0
   repeat' first|exact ih0 _ _ _|exact ih1 _ _ _ _ _|exact ih2 _ _ _ _ _ _ _ _|exact Z61.mono _ _|exact lo_|refine LeO.ite ?_ ?_|refine LeO.bind ?_ (fun _ => ?_)
  ·intro y0 y1 y2 y3 y4 y5 y6 y7
   unfold Z9.l1
   repeat' first|exact ih0 _ _ _|exact ih1 _ _ _ _ _|exact ih2 _ _ _ _ _ _ _ _|exact Z61.mono _ _|exact lo_|refine LeO.ite ?_ ?_|refine LeO.bind ?_ (fun _ => ?_)
theorem Z9.mono : ∀ a0 a1 k, LeO (Z9.f k a0 a1) (Z9.f (k + 1) a0 a1) := by
 intro a0 a1 k
 obtain ⟨ih0, ih1, ih2⟩ := Z9.mono_l k
 unfold Z9.f
 repeat' first|exact ih0 _ _ _|exact ih1 _ _ _ _ _|exact ih2 _ _ _ _ _ _ _ _|exact Z61.mono _ _|exact lo_|refine LeO.ite ?_ ?_|refine LeO.bind ?_ (fun _ => ?_)
def Z9.T9 : Bool × List (List Nat × List Nat) := (true, [([], []), ([], []), ([], []), ([1, 2], [1, 2]), ([3], [3]), ([0, 4], [0, 4]), ([5], [5]), ([], []), ([], []), ([], []), ([8, 9], [8, 9]), ([10], [10]), ([7, 11], [7, 11]), ([12], [12]), ([6, 13], [6, 13]), ([14], [14]), ([], [])])
def Z9.B9 : List Nat := [0, 0, 0, 6, 14, 31, 63, 0, 0, 0, 768, 1792, 3968, 8064, 16383, 32767, 0]
theorem Z9.tab9 : rtab .any (opsOf Tryz.f108 9) = Z9.T9 := by kernel_rfl
theorem Z9.bits9 : waitsOk Z9.T9.2 Z9.B9 = true := by kernel_rfl
set_option maxHeartbeats 8000000 in
set_option maxRecDepth 100000 in
theorem Z9.calls (k : Nat) (A0 : Option Addr) (c0 : Nat) (l0 : List Int) (A1 : Option Addr) (c1 : Nat) (l1 : List Int) (r : Bool) (w : World) (hr0 : Kd.C (Kd.int .i64) w A0 l0.length l0) (hc0 : l0.length ≤ c0) (hr1 : Kd.C (Kd.int .i64) w A1 l1.length l1) (hc1 : l1.length ≤ c1) (h : Z9.f k l0 l1 = some r) :
  Calls Tryz.prog 108 #[.slice A0 l0.length c0, .slice A1 l1.length c1] w fun e w' => e = .returned (.bool r) ∧ Below w.heap.size w w' := by
 have HR0 := A_ hr0
 have HC0 := A_ hc0
 clear hr0 hc0
 have HR1 := A_ hr1
 have HC1 := A_ hc1
 clear hr1 hc1
 have HB := A_ (Below.refl w.heap.size w)
 have H := h
 unfold Z9.f at H
 clear h
 have HC3 := A_ H
 clear H
 go_enter Tryz.func108, Tryz.ntmps108
 go_upto_region 1 with (fail)
 go_cut [29] (fun v29 wc => ∃ (kq : Nat) (x29_2 : Bool), v29 = .bool x29_2 ∧ Aside0 (Z9.j0 kq l0 l1 x29_2 = some r) ∧ Aside0 (kq ≤ k) ∧ Aside0 (Below w.heap.size w wc))
 case first =>
  have H := HC3.out
  clear HC3
  obtain ⟨t448, A4, H⟩ := bi_ H
  by_cases c5 : t448 = true
  ·subst c5
   rw [if_pos rfl] at H
   obtain ⟨t449, A6, H⟩ := bi_ H
   by_cases c7 : t449 = true
   ·subst c7
    rw [if_pos rfl] at H
    by_cases c8 : (l0.length : Int) = (l1.length : Int)
    ·rw [if_pos c8] at H
     have c8b0 : ((l0.length : Int) == (l1.length : Int)) = true := beq_iff_eq.mpr c8
     have c8b1 : ((l0.length : Int) != (l1.length : Int)) = false := bne_eq_false_iff_eq.mpr c8
     have c8b2 : (l0.length == l1.length) = true := by first | simpa using c8 | (simp at c8 ⊢; omega)
     clear c8
     (first | rw [c8b0] | (simp only [i64_w, i32_w]; rw [c8b0]) | skip)
     have H' := A_ H
     clear H
     go_wp2_with (first | ((with_reducible refine gA_ (f := 98) rfl ?_); refine gL_ (some 11) Tryz.func98 #[.slice A0 l0.length c0] rfl qa_ ?_; (with_reducible refine (Z61.calls k _ _ l0 true _ (cb_ HR0) HC0.out A4.out).mono ?_); rintro e w9 ⟨rfl, hb⟩; refine ⟨_, rfl, ?_⟩; replace HB := b1_ hb; clear hb) | (go_at_call 98; (with_reducible refine (Z61.calls k _ _ l1 true _ (cb_ HR1) HC1.out A6.out).mono ?_); rintro e w10 ⟨rfl, hb⟩; replace HB := b1_ hb; clear hb))
     go_meet
     case rel => exact ⟨_, (((l0.length : Int) == 0)), qc_, H', ⟨qd_⟩, ⟨hB_⟩⟩
    ·rw [if_neg c8] at H
     have c8b0 : ((l0.length : Int) == (l1.length : Int)) = false := beq_eq_false_iff_ne.mpr c8
     have c8b1 : ((l0.length : Int) != (l1.length : Int)) = true := bne_iff_ne.mpr c8
     have c8b2 : (l0.length == l1.length) = false := by first | simpa using c8 | (simp at c8 ⊢; omega)
     (first | rw [c8b0] | (simp only [i64_w, i32_w]; rw [c8b0]) | skip)
     have H' := A_ H
     clear H
     go_wp2_with (first | ((with_reducible refine gA_ (f := 98) rfl ?_); refine gL_ (some 11) Tryz.func98 #[.slice A0 l0.length c0] rfl qa_ ?_; (with_reducible refine (Z61.calls k _ _ l0 true _ (cb_ HR0) HC0.out A4.out).mono ?_); rintro e w11 ⟨rfl, hb⟩; refine ⟨_, rfl, ?_⟩; replace HB := b1_ hb; clear hb) | (go_at_call 98; (with_reducible refine (Z61.calls k _ _ l1 true _ (cb_ HR1) HC1.out A6.out).mono ?_); rintro e w12 ⟨rfl, hb⟩; replace HB := b1_ hb; clear hb))
     go_meet
     case rel => exact ⟨_, (true), qc_, H', ⟨qd_⟩, ⟨hB_⟩⟩
   ·replace c7 := Bool.eq_false_iff.mpr c7
    subst c7
    have H1 : (Z9.j0 k l0 l1 true) = some r := by rw [if_neg (show ¬ (false = true) by decide)] at H; exact H
    clear H
    have H := H1
    clear H1
    have H' := A_ H
    clear H
    go_wp2_with (first | ((with_reducible refine gA_ (f := 98) rfl ?_); refine gL_ (some 11) Tryz.func98 #[.slice A0 l0.length c0] rfl qa_ ?_; (with_reducible refine (Z61.calls k _ _ l0 true _ (cb_ HR0) HC0.out A4.out).mono ?_); rintro e w13 ⟨rfl, hb⟩; refine ⟨_, rfl, ?_⟩; replace HB := b1_ hb; clear hb) | (go_at_call 98; (with_reducible refine (Z61.calls k _ _ l1 false _ (cb_ HR1) HC1.out A6.out).mono ?_); rintro e w14 ⟨rfl, hb⟩; replace HB := b1_ hb; clear hb))
    go_meet
    case rel => exact ⟨_, (true), qc_, H', ⟨qd_⟩, ⟨hB_⟩⟩
  ·replace c5 := Bool.eq_false_iff.mpr c5
   subst c5
   have H1 : (Z9.j0 k l0 l1 true) = some r := by rw [if_neg (show ¬ (false = true) by decide)] at H; exact H
   clear H
   have H := H1
   clear H1
   have H' := A_ H
   clear H
   go_wp2_with (first | ((with_reducible refine gA_ (f := 98) rfl ?_); refine gL_ (some 11) Tryz.func98 #[.slice A0 l0.length c0] rfl qa_ ?_; (with_reducible refine (Z61.calls k _ _ l0 false _ (cb_ HR0) HC0.out A4.out).mono ?_); rintro e w15 ⟨rfl, hb⟩; refine ⟨_, rfl, ?_⟩; replace HB := b1_ hb; clear hb))
   go_meet
   case rel => exact ⟨_, (true), qc_, H', ⟨qd_⟩, ⟨hB_⟩⟩
 case rest =>
  clear HC3
  obtain ⟨kq, x29_2, rfl, HA, HJ2, HB⟩ := hcut
  cases kq with
  | zero => exact absurd HA.out (by simp [Z9.j0])
  | succ kj2 =>
   have H := HA.out
   clear HA
   simp only [Z9.j0] at H
   by_cases c16 : x29_2 = true
   ·subst c16
    rw [if_pos rfl] at H
    obtain rfl := Option.some.inj H
    go_wp2
    go_ret
    exact ⟨qb_, hB_⟩
   ·replace c16 := Bool.eq_false_iff.mpr c16
    subst c16
    have H1 : (if 0 ≤ (l0.length : Int) then (if ((l0.length : Int) : Int).toNat ≤ 281474976710656 then ((some (List.replicate ((l0.length : Int) : Int).toNat false : List Bool)).bind fun y450 => (if 0 < (y450.length : Int) then (Z9.l0 kj2 l0 l1 (y450.set (0 : Int).toNat true) (([0] : List Int)) 0) else (none))) else (none)) else (none)) = some r := by rw [if_neg (show ¬ (false = true) by decide)] at H; exact H
    clear H
    have H := H1
    clear H1
    have c17 := cp_ H
    replace H := ca_ H
    have c17b0 := eq_true c17
    have c17b1 := oC_ c17
    clear c17
    have c18 := cp_ H
    replace H := ca_ H
    have c18b0 := eq_true c18
    have c18b1 := oC_ c18
    clear c18
    obtain ⟨y450, hy450⟩ : ∃ y_ : List Bool, y_ = (List.replicate ((l0.length : Int) : Int).toNat false) := ⟨_, rfl⟩
    replace H : (if 0 < (y450.length : Int) then (Z9.l0 kj2 l0 l1 (y450.set (0 : Int).toNat true) (([0] : List Int)) 0) else (none)) = some r := by first | (rw [hy450]; exact H) | exact H
    have Ny450 := A_ hy450
    clear hy450
    have c19 := cp_ H
    replace H := ca_ H
    have c19b0 := oC_ c19
    have c19b1 : decide (0 < y450.length) = true := oC_ (by omega)
    clear c19
    obtain ⟨y453, hy453⟩ : ∃ y_ : List Bool, y_ = (y450.set (0 : Int).toNat true) := ⟨_, rfl⟩
    replace H : (Z9.l0 kj2 l0 l1 y453 (([0] : List Int)) 0) = some r := by first | (rw [hy453]; exact H) | exact H
    have Ny453 := A_ hy453
    clear hy453
    obtain ⟨y454, hy454⟩ : ∃ y_ : List Int, y_ = (([0] : List Int)) := ⟨_, rfl⟩
    replace H : (Z9.l0 kj2 l0 l1 y453 y454 0) = some r := by first | (rw [hy454]; exact H) | exact H
    have Ny454 := A_ hy454
    clear hy454
    have H' := A_ H
    clear H
    go_wp2_with (first | ((with_reducible refine gB_ (N := 32) rfl ?_); (try (refine gate_guard (by rfl) ?_; dsimp only)); refine Kd.R_make Kd.bool _ 4 rfl (N := 32) rfl 92 _ _ rfl (l0.length : Int) rfl rfl Tryz.underlying92 (.bool false) 1 info4 rfl (by decide) (by omega) false (ok := fun _ => True) (okp := fun _ => True) rfl (fun _ hk => hk) trivial (oB_ qe_) (Nat.le_trans (Nat.mul_le_mul_right _ (oB_ qe_ : (l0.length : Int).toNat ≤ 281474976710656)) (by omega)) (Below.refl _ _) (nA_ _) ?_; intro v451 w21 ho22 hb hg_ hnew_; clear hg_ hnew_; (first | rw [← Ny450.out] at ho22 | (simp only [Int.reduceToNat] at ho22; rw [← Ny450.out] at ho22)); have HO452 := rl_ w ho22; replace HB := b1_ hb; clear hb ho22; have p20 : 0 ≤ (0 : Int) := (by omega); have q20 : (0 : Int) < ((y450.length : Int) : Int) := oB_ qe_; have qi20 : (0 < y450.length) = True := eq_true (by omega); obtain ⟨go20, co20, eo20, gb20, gl20, cl20, HG20⟩ := Kd.R_form HO452.out (by omega); (first | cases eo20 | (injection eo20 with ea_ en_ ec_; (first | subst ea_ | (injection ea_ with ea_; subst ea_)); subst ec_; clear en_)); have GB20 := A_ gb20; have GG20 := A_ HG20; clear gb20 gl20 HG20; obtain ⟨hx20_0, hf20_0⟩ := Kd.R_celln false HO452.out (0 : Int) p20 q20; (try rw [show ((0 : Int)).toNat = 0 from rfl] at hx20_0); (try simp only [Nat.reduceMul, Nat.zero_mul, Nat.zero_add, Nat.reduceAdd] at hx20_0); (try rw [show ((0 : Int)).toNat = 0 from rfl] at hf20_0); (try simp only [Nat.reduceMul, Nat.zero_mul, Nat.zero_add, Nat.reduceAdd] at hf20_0); replace p20 := eq_true p20; replace q20 := eq_true q20; obtain ⟨hy23_, hz23_⟩ := Kd.R_celln false HO452.out (0 : Int) (by omega) (oB_ qe_); (try simp only [Int.reduceToNat, Int.toNat_zero, Int.toNat_ofNat, Nat.reduceMul, Nat.zero_mul, Nat.zero_add] at hy23_ hz23_); (try rw [show ((0 : Int)).toNat = 0 from rfl] at hy23_); (try rw [show ((0 : Int)).toNat = 0 from rfl] at hz23_); have HP23 := Kd.R_putg HO452.out (0 : Int) true) | ((with_reducible refine gate_store (t := 4) (p := 34) rfl ?_); refine store_event (t := 4) (p := 34) (v := ?vo_w24) (w1 := (w21.setCell ⟨go20, (0 : Int).toNat, none⟩ (.bool true))) ?hg ?ho ?hn ?hr ?_; (case ho => rfl); (case hg => rfl); (case hn => rfl); (case hr => first | (go_simp; done) | (go_simp; rfl)); intro w24 hw; have hg : w21.grownBy w24 (some go20) := (by rw [hw]; exact HP23.2); have hp_ : Kd.R Kd.bool 4 w24 w.heap.size (fun _ => True) (.slice (some ⟨go20, 0, none⟩) y450.length co20) y453 := (by rw [hw, Ny453.out]; exact HP23.1); clear HP23; replace HO452 := A_ (hp_); replace HB := A_ ((by rw [hw]; exact bD_ (HB.out) GB20.out : Below w.heap.size w w24)); clear hg hw hp_) | ((with_reducible refine gB_ (N := 35) rfl ?_); (try (refine gate_guard (by rfl) ?_; dsimp only)); refine Kd.R_lit (Kd.int .i64) _ 3 ?hg (N := 35) ?hd (xs := ([0] : List Int)) (inner := [.int .i64 0]) (ok := fun _ => True) (okp := fun _ => True) ?hr ?hp (fun _ hk => hk) trivial (Below.refl _ _) (nA_ _) (by simp) ?_; (case hd => rfl); (case hg => rfl); (case hr => first | (go_simp; done) | (go_simp; rfl)); (case hp => exact (Reps.one (show Kd.M (Kd.int .i64) _ _ _ 0 [.int .i64 0] from rfl) (Reps.none _ _))); intro v455 w25 ho26 hb hg_ hnew_; clear hg_ hnew_; (first | rw [← Ny454.out] at ho26 | (simp only [Int.reduceToNat] at ho26; rw [← Ny454.out] at ho26)); replace HO452 := rb_ HO452 hb; have HO456 := rl_ w ho26; replace HB := b1_ hb; clear hb ho26))
    go_loopg [6, 7] kj2 (fun kq v6 v7 w' => ∃ (x5_2 : List Bool) (x6_2 : List Int) (x7_2 : Int), v7 = .int .i64 x7_2 ∧ Aside0 (Z9.l0 kq l0 l1 x5_2 x6_2 x7_2 = some r) ∧ Aside0 (kq ≤ kj2) ∧ Aside0 (Kd.R Kd.bool 4 w' w.heap.size (fun _ => True) (.slice (some ⟨go20, 0, none⟩) y450.length co20) x5_2) ∧ Aside0 (Kd.R (Kd.int .i64) 3 w' w.heap.size (fun _ => True) v6 x6_2) ∧ Aside0 (Below w.heap.size w w'))
    case atStart => exact ⟨(y453), (y454), (0), qc_, H', ⟨nA_ _⟩, ⟨(rr_ HO452)⟩, ⟨(rr_ HO456)⟩, ⟨hB_⟩⟩
    case round =>
     clear H'
     obtain ⟨x5_2, x6_2, x7_2, rfl, HA, HK2, HO_5, HO_6, HB⟩ := hrel
     have hl5_2 := (Kd.R_reads' HO_5.out).1
     rw [hl5_2] at HO_5
     (try simp only [hl5_2])
     (try simp only [hl5_2] at HO_6)
     cases gk with
     | zero => exact absurd HA.out (by simp [Z9.l0])
     | succ k2 =>
      have H := HA.out
      clear HA
      simp only [Z9.l0] at H
      by_cases c27 : x7_2 < (x6_2.length : Int)
      ·rw [if_pos c27] at H
       have c27b0 := oC_ c27
       clear c27
       have c28 := cp_ H
       replace H := ca_ H
       have c28b0 := oC_ c28
       clear c28
       have c29 := cp_ H
       replace H := ca_ H
       have c29b0 := oC_ c29
       clear c29
       have c30 := cp_ H
       replace H := ca_ H
       have c30b0 := oC_ c30
       clear c30
       have c31 := cp_ H
       replace H := ca_ H
       have c31b0 := oC_ c31
       clear c31
       obtain ⟨y461, hy461⟩ : ∃ y_ : List Int, y_ = (([rd l0 (rd x6_2 x7_2), rd l1 (rd x6_2 x7_2)] : List Int)) := ⟨_, rfl⟩
       replace H : (Z9.l1 k2 l0 l1 x5_2 x6_2 x7_2 y461 (y461.length : Int) 0) = some r := by first | (rw [hy461]; exact H) | exact H
       have Ny461 := A_ hy461
       clear hy461
       have H' := A_ H
       clear H
       obtain ⟨Ao32, co32, eo32⟩ := Kd.R_slice HO_6.out
       subst eo32
       try go_wp2
       replace HO_5 := A_ (rC_ HO_5.out)
       replace HO_6 := A_ (rC_ HO_6.out)
       replace HB := A_ (bC_ HB.out)
       have p457 : 0 ≤ (x7_2 : Int) := oB_ qe_
       have q457 : x7_2 < (x6_2.length : Int) := oB_ qe_
       obtain ⟨ad457, e457, hx457_0⟩ := Kd.at_int (Kd.R_reads' HO_6.out).2.2 x7_2 p457 q457
       cases e457
       replace p457 := eq_true p457
       replace q457 := eq_true q457
       have p458 : 0 ≤ ((rd x6_2 x7_2) : Int) := oB_ qe_
       have q458 : (rd x6_2 x7_2) < (l0.length : Int) := oB_ qe_
       obtain ⟨ad458, e458, hx458_0⟩ := Kd.at_int HR0.out (rd x6_2 x7_2) p458 q458
       have hw458_0 := hx458_0
       cases e458
       replace hx458_0 := (HB.out.cell (World.block_lt_of_cell? w _ hx458_0)).trans hx458_0
       replace p458 := eq_true p458
       replace q458 := eq_true q458
       have p459 : 0 ≤ (x7_2 : Int) := oB_ qe_
       have q459 : x7_2 < (x6_2.length : Int) := oB_ qe_
       obtain ⟨ad459, e459, hx459_0⟩ := Kd.at_int (Kd.R_reads' HO_6.out).2.2 x7_2 p459 q459
       obtain rfl : ad457 = ad459 := (by injection e459)
       replace p459 := eq_true p459
       replace q459 := eq_true q459
       have p460 : 0 ≤ ((rd x6_2 x7_2) : Int) := oB_ qe_
       have q460 : (rd x6_2 x7_2) < (l1.length : Int) := oB_ qe_
       obtain ⟨ad460, e460, hx460_0⟩ := Kd.at_int HR1.out (rd x6_2 x7_2) p460 q460
       have hw460_0 := hx460_0
       cases e460
       replace hx460_0 := (HB.out.cell (World.block_lt_of_cell? w _ hx460_0)).trans hx460_0
       replace p460 := eq_true p460
       replace q460 := eq_true q460
       refine start_ (n := 17) (S := fun w' => w'.cell? (ad457.add (x7_2).toNat) = some (.int .i64 (rd x6_2 x7_2)) ∧ w'.cell? (ad458.add ((rd x6_2 x7_2)).toNat) = some (.int .i64 (rd l0 (rd x6_2 x7_2))) ∧ w'.cell? (ad457.add (x7_2).toNat) = some (.int .i64 (rd x6_2 x7_2)) ∧ w'.cell? (ad460.add ((rd x6_2 x7_2)).toNat) = some (.int .i64 (rd l1 (rd x6_2 x7_2)))) (ds := []) (bl_ 17 0) (by kernel_rfl) rfl (by kernel_rfl) ⟨hx457_0, ((HB.out.cell (World.block_lt_of_cell? w _ hw458_0)).trans hw458_0), hx459_0, ((HB.out.cell (World.block_lt_of_cell? w _ hw460_0)).trans hw460_0)⟩ (fun hHeld => ?_); refine with_tabW Z9.tab9 Z9.bits9 (fun HT_ HW_ => ?_)
       generalize wr.drew = w33 at HO_5 HO_6 HB hx457_0 hx458_0 hx459_0 hx460_0 hHeld ⊢
       refine pu_ 0 (some 42) (bl_ 17 1) HT_ ?_
       refine pu_ 1 (some 43) (bl_ 17 3) HT_ ?_
       refine pu_ 2 (some 44) (bl_ 17 7) HT_ ?_
       refine pu_ 3 (some 45) (bl_ 17 15) HT_ ?_
       refine pu_ 7 (some 49) (bl_ 17 143) HT_ ?_
       refine pu_ 8 (some 50) (bl_ 17 399) HT_ ?_
       refine pu_ 9 (some 51) (bl_ 17 911) HT_ ?_
       refine pu_ 10 (some 52) (bl_ 17 1935) HT_ ?_
       refine pu_ 16 (some 58) (bl_ 17 67471) HT_ ?_
       refine ta_ 4 (some 46) (bl_ 17 67487) HT_ HW_ hHeld ?_
       refine pu_ 5 (some 47) (bl_ 17 67519) HT_ ?_
       refine ta_ 6 (some 48) (bl_ 17 67583) HT_ HW_ hHeld ?_
       refine ta_ 11 (some 53) (bl_ 17 69631) HT_ HW_ hHeld ?_
       refine pu_ 12 (some 54) (bl_ 17 73727) HT_ ?_
       refine ta_ 13 (some 55) (bl_ 17 81919) HT_ HW_ hHeld ?_
       refine on_ 14 (some 56) (bl_ 17 98303) HT_ (fun K hK => ?_)
       refine Kd.R_lit_step (Kd.int .i64) _ 3 ?hg (N := 56) ?hd (xs := ([rd l0 (rd x6_2 x7_2), rd l1 (rd x6_2 x7_2)] : List Int)) (inner := [.int .i64 (rd l0 (rd x6_2 x7_2)), .int .i64 (rd l1 (rd x6_2 x7_2))]) (ok := fun _ => True) (okp := fun _ => True) ?hr ?hp (fun _ hk => hk) trivial (Below.refl _ _) (nA_ _) (by simp) ?_; (case hd => rfl); (case hg => rfl); (case hr => first | (go_simp; done) | (go_simp; rfl)); (case hp => exact (Reps.one (show Kd.M (Kd.int .i64) _ _ _ (rd l0 (rd x6_2 x7_2)) [.int .i64 (rd l0 (rd x6_2 x7_2))] from rfl) (Reps.one (show Kd.M (Kd.int .i64) _ _ _ (rd l1 (rd x6_2 x7_2)) [.int .i64 (rd l1 (rd x6_2 x7_2))] from rfl) (Reps.none _ _))))
       intro v462 w34 ho35 hb hg_ hnew_
       have HS0_ := (hb.cell (World.block_lt_of_cell? _ _ (hHeld.1))).trans (hHeld.1)
       have HS2_ := (hb.cell (World.block_lt_of_cell? _ _ (hHeld.2.2.1))).trans (hHeld.2.2.1)
       clear hg_ hnew_
       (first | rw [← Ny461.out] at ho35 | (simp only [Int.reduceToNat] at ho35; rw [← Ny461.out] at ho35))
       replace HO_5 := rb_ HO_5 hb
       have HO463 := A_ (rE_ (Kd.R_new' ho35 (Kd.R_lt (rr_ HO_6))) (bF_ hB_))
       replace HO_6 := A_ (Kd.R_elder' (rr_ HO_6) (Kd.R_base ho35) hb)
       replace HB := b1_ hb
       clear hb ho35
       obtain ⟨Ao36, co36, eo36⟩ := Kd.R_slice HO463.out
       (first | subst eo36 | (injection eo36 with f1_ f2_ f3_; have f4_ := f1_.symm; have f5_ := f3_.symm; clear f1_ f2_ f3_; subst f4_; subst f5_))
       refine hK.out _ _ ⟨HS0_, ((HB.out.cell (World.block_lt_of_cell? w _ hw458_0)).trans hw458_0), HS2_, ((HB.out.cell (World.block_lt_of_cell? w _ hw460_0)).trans hw460_0)⟩ (fun hHeld => ?_)
       clear hK K
       refine no_ (some 56) ?_
       refine pu_ 15 (some 57) (bl_ 17 131071) HT_ ?_
       refine done_ (done_of HT_.out (by kernel_rfl)) ?_
       try go_wp2
       go_loopg [6, 58] k2 (fun kq v6 v58 w' => ∃ (x5_3 : List Bool) (x6_3 : List Int) (x58_3 : Int), v58 = .int .i64 x58_3 ∧ Aside0 (Z9.l1 kq l0 l1 x5_3 x6_3 x7_2 y461 (y461.length : Int) x58_3 = some r) ∧ Aside0 (kq ≤ k2) ∧ Aside0 (Kd.R Kd.bool 4 w' w.heap.size (fun _ => True) (.slice (some ⟨go20, 0, none⟩) x5_2.length co20) x5_3) ∧ Aside0 (Kd.R (Kd.int .i64) 3 w' w.heap.size (fun k_ => some k_ ≠ ((.slice Ao36 y461.length co36) : Value).ownBlock) v6 x6_3) ∧ Aside0 (Kd.R (Kd.int .i64) 3 w' w.heap.size (fun k_ => some k_ ≠ (v6 : Value).ownBlock) (.slice Ao36 y461.length co36) y461) ∧ Aside0 (Below w.heap.size w w'))
       case atStart => exact ⟨(x5_2), (x6_2), (0), qc_, H', ⟨nA_ _⟩, ⟨by (try simp only [hl5_2]); (with_reducible repeat (first | apply rA_ | apply rB_ | apply rC_)); exact HO_5.out⟩, ⟨by (try simp only [hl5_2]); (with_reducible repeat (first | apply rA_ | apply rB_ | apply rC_)); exact Kd.R_mono HO_6.out (fun _ hk => hk.2)⟩, ⟨by (try simp only [hl5_2]); (with_reducible repeat (first | apply rA_ | apply rB_ | apply rC_)); exact Kd.R_mono HO463.out (fun _ hk => hk.2)⟩, ⟨hB_⟩⟩
       case round =>
        clear H'
        obtain ⟨x5_3, x6_3, x58_3, rfl, HA, HK3, HO_5, HO_6, HO_56, HB⟩ := hrel
        have hl5_3 := (Kd.R_reads' HO_5.out).1
        rw [hl5_3] at HO_5
        (try simp only [hl5_3])
        (try simp only [hl5_3] at HO_6)
        (try simp only [hl5_3] at HO_56)
        cases gk with
        | zero => exact absurd HA.out (by simp [Z9.l1])
        | succ k3 =>
         have H := HA.out
         clear HA
         simp only [Z9.l1] at H
         by_cases c37 : x58_3 < (y461.length : Int)
         ·rw [if_pos c37] at H
          have c37b0 := oC_ c37
          clear c37
          have c38 := cp_ H
          replace H := ca_ H
          have c38b0 := oC_ c38
          clear c38
          have c39 := cp_ H
          replace H := ca_ H
          have c39b0 := oC_ c39
          clear c39
          have c40 := cp_ H
          replace H := ca_ H
          have c40b0 := oC_ c40
          clear c40
          have c41 := cp_ H
          replace H := ca_ H
          have c41b0 := oC_ c41
          clear c41
          obtain ⟨bq42, hbq42⟩ : ∃ b_ : Bool, b_ = (rdOf false x5_3 (rd y461 x58_3)) := ⟨_, rfl⟩
          replace H : (if (bq42 = true) then (Z9.l1 k3 l0 l1 x5_3 x6_3 x7_2 y461 (y461.length : Int) (wrap64 (x58_3 + 1))) else (if x6_3.length < 17592186044416 then (Z9.l1 k3 l0 l1 (x5_3.set ((rd y461 x58_3) : Int).toNat true) (x6_3 ++ [rd y461 x58_3]) x7_2 y461 (y461.length : Int) (wrap64 (x58_3 + 1))) else (none))) = some r := by rw [← hbq42] at H; exact H
          have Nbq42 := A_ hbq42
          clear hbq42
          by_cases c43 : (bq42 = true)
          ·subst c43
           rw [if_pos rfl] at H
           have H' := A_ H
           clear H
           have p464 : 0 ≤ (x58_3 : Int) := oB_ qe_
           have q464 : x58_3 < (y461.length : Int) := oB_ qe_
           obtain ⟨ad464, e464, hx464_0⟩ := Kd.at_int (Kd.R_reads' HO_56.out).2.2 x58_3 p464 q464
           cases e464
           replace p464 := eq_true p464
           replace q464 := eq_true q464
           have p465 : 0 ≤ ((rd y461 x58_3) : Int) := oB_ qe_
           have q465 : (rd y461 x58_3) < (x5_3.length : Int) := oB_ qe_
           obtain ⟨ad465, e465, hx465_0⟩ := Kd.at_bool (Kd.R_reads' HO_5.out).2.2 (rd y461 x58_3) p465 q465
           (try rw [← Nbq42.out] at hx465_0)
           obtain rfl : (⟨go20, 0, none⟩ : Addr) = ad465 := (by injection e465)
           (first | simp only [add_plain] at hx465_0 | simp only [add_at] at hx465_0 | simp only [Addr.add, Nat.zero_add] at hx465_0 | skip)
           replace p465 := eq_true p465
           replace q465 := eq_true q465
           go_wp2
           (try simp only [← hl5_3])
           go_roundg k3
           case measure => have := HJ2.out; have := HK2.out; have := HK3.out; omega
           case rel => exact ⟨(x5_3), (x6_3), (wrap64 (x58_3 + 1)), qc_, H', ⟨by have := HJ2.out; have := HK2.out; have := HK3.out; omega⟩, ⟨by (try simp only [hl5_2]); (try simp only [hl5_3]); (with_reducible repeat (first | apply rA_ | apply rB_ | apply rC_)); exact HO_5.out⟩, ⟨by (try simp only [hl5_2]); (try simp only [hl5_3]); (with_reducible repeat (first | apply rA_ | apply rB_ | apply rC_)); exact HO_6.out⟩, ⟨by (try simp only [hl5_2]); (try simp only [hl5_3]); (with_reducible repeat (first | apply rA_ | apply rB_ | apply rC_)); exact HO_56.out⟩, ⟨hB_⟩⟩
          ·replace c43 := Bool.eq_false_iff.mpr c43
           subst c43
           have H1 : (if x6_3.length < 17592186044416 then (Z9.l1 k3 l0 l1 (x5_3.set ((rd y461 x58_3) : Int).toNat true) (x6_3 ++ [rd y461 x58_3]) x7_2 y461 (y461.length : Int) (wrap64 (x58_3 + 1))) else (none)) = some r := by rw [if_neg (show ¬ (false = true) by decide)] at H; exact H
           clear H
           have H := H1
           clear H1
           obtain ⟨y466, hy466⟩ : ∃ y_ : List Bool, y_ = (x5_3.set ((rd y461 x58_3) : Int).toNat true) := ⟨_, rfl⟩
           replace H : (if x6_3.length < 17592186044416 then (Z9.l1 k3 l0 l1 y466 (x6_3 ++ [rd y461 x58_3]) x7_2 y461 (y461.length : Int) (wrap64 (x58_3 + 1))) else (none)) = some r := by first | (rw [hy466]; exact H) | exact H
           have Ny466 := A_ hy466
           clear hy466
           have c45 := cp_ H
           replace H := ca_ H
           have LMc45 := A_ c45
           clear c45
           obtain ⟨y467, hy467⟩ : ∃ y_ : List Int, y_ = (x6_3 ++ [rd y461 x58_3]) := ⟨_, rfl⟩
           replace H : (Z9.l1 k3 l0 l1 y466 y467 x7_2 y461 (y461.length : Int) (wrap64 (x58_3 + 1))) = some r := by first | (rw [hy467]; exact H) | exact H
           have Ny467 := A_ hy467
           clear hy467
           have H' := A_ H
           clear H
           have p464 : 0 ≤ (x58_3 : Int) := oB_ qe_
           have q464 : x58_3 < (y461.length : Int) := oB_ qe_
           obtain ⟨ad464, e464, hx464_0⟩ := Kd.at_int (Kd.R_reads' HO_56.out).2.2 x58_3 p464 q464
           cases e464
           replace p464 := eq_true p464
           replace q464 := eq_true q464
           have p465 : 0 ≤ ((rd y461 x58_3) : Int) := oB_ qe_
           have q465 : (rd y461 x58_3) < (x5_3.length : Int) := oB_ qe_
           obtain ⟨ad465, e465, hx465_0⟩ := Kd.at_bool (Kd.R_reads' HO_5.out).2.2 (rd y461 x58_3) p465 q465
           (try rw [← Nbq42.out] at hx465_0)
           obtain rfl : (⟨go20, 0, none⟩ : Addr) = ad465 := (by injection e465)
           (first | simp only [add_plain] at hx465_0 | simp only [add_at] at hx465_0 | simp only [Addr.add, Nat.zero_add] at hx465_0 | skip)
           replace p465 := eq_true p465
           replace q465 := eq_true q465
           have p44 : 0 ≤ ((rd y461 x58_3) : Int) := oB_ qe_
           have q44 : ((rd y461 x58_3) : Int) < ((x5_3.length : Int) : Int) := oB_ qe_
           obtain ⟨hx44_0, hf44_0⟩ := Kd.R_celln false HO_5.out ((rd y461 x58_3) : Int) p44 q44
           replace p44 := eq_true p44
           replace q44 := eq_true q44
           have HP46 := Kd.R_putg HO_5.out ((rd y461 x58_3) : Int) true
           go_wp2_with (first | ((with_reducible refine gate_store (t := 4) (p := 69) rfl ?_); refine store_event (t := 4) (p := 69) (v := ?vo_w47) (w1 := (wr.setCell ⟨go20, ((rd y461 x58_3) : Int).toNat, none⟩ (.bool true))) ?hg ?ho ?hn ?hr ?_; (case ho => rfl); (case hg => rfl); (case hn => rfl); (case hr => first | (go_simp; done) | (go_simp; rfl)); intro w47 hw; have hg : wr.grownBy w47 (some go20) := (by rw [hw]; exact HP46.2); have hp_ : Kd.R Kd.bool 4 w47 w.heap.size (fun _ => True) (.slice (some ⟨go20, 0, none⟩) x5_3.length co20) y466 := (by rw [hw, Ny466.out]; exact HP46.1); clear HP46; replace HO_6 := A_ (Kd.R_over' (v := (.slice (some ⟨go20, 0, none⟩) x5_3.length co20)) (rr_ HO_6) (Kd.R_typed HO_5.out) (by decide) hg); replace HO_56 := A_ (Kd.R_over' (v := (.slice (some ⟨go20, 0, none⟩) x5_3.length co20)) (rr_ HO_56) (Kd.R_typed HO_5.out) (by decide) hg); replace HO_5 := A_ (hp_); replace HB := A_ ((by rw [hw]; exact bD_ (HB.out) GB20.out : Below w.heap.size w w47)); clear hg hw hp_) | ((with_reducible refine gate_builtin (b := .append) (xs := #[.tmp 70, .tmp 72]) rfl ?_); (try (refine gate_guard (by rfl) ?_; dsimp only)); at_builtin; refine Kd.R_append (Kd.int .i64) (w0 := w) w.heap.size rfl (.tmp 70) (.tmp 72) 27 3 (.int .i64 0) 8 rfl Tryz.underlying27 info3 rfl (by decide) (by omega) u6 x6_3 (rd y461 x58_3) [.int .i64 (rd y461 x58_3)] (fun k_ => some k_ ≠ (.slice (some ad464) y461.length co36 : Value).ownBlock) (fun _ => False) rfl rfl ?aP (fun _ hk => hk.elim) ?aF ?aO ?aB ?aS ?aL ?_; (case aP => exact rfl); (case aB => exact hB_); (case aF => exact (fun k_ hk => Kd.fresh' (Kd.R_lt (rr_ HO_56)) k_ hk)); (case aO => exact (rr_ HO_6)); (case aS => exact (bF_ hB_)); (case aL => have := LMc45.out; omega); intro v468 w48 ho hb hg hat; rw [← Ny467.out] at ho; replace HO_5 := A_ (Kd.R_over' (rr_ HO_5) (Kd.R_typed (rr_ HO_6)) (by decide) hg); replace HO_56 := A_ (Kd.R_after (ok := (fun _ => True)) (rw_ (Kd.R_mono HO_56.out (fun _ hk => ⟨trivial, hk⟩))) hg hat); replace HB := A_ hb; have HO469 := A_ ho; clear HO_6; clear ho hb hg hat))
           (try simp only [← hl5_3])
           go_roundg k3
           case measure => have := HJ2.out; have := HK2.out; have := HK3.out; omega
           case rel => exact ⟨(y466), (y467), (wrap64 (x58_3 + 1)), qc_, H', ⟨by have := HJ2.out; have := HK2.out; have := HK3.out; omega⟩, ⟨by (try simp only [hl5_2]); (try simp only [hl5_3]); (with_reducible repeat (first | apply rA_ | apply rB_ | apply rC_)); exact HO_5.out⟩, ⟨by (try simp only [hl5_2]); (try simp only [hl5_3]); (with_reducible repeat (first | apply rA_ | apply rB_ | apply rC_)); exact HO469.out⟩, ⟨by (try simp only [hl5_2]); (try simp only [hl5_3]); (with_reducible repeat (first | apply rA_ | apply rB_ | apply rC_)); exact Kd.R_mono HO_56.out (fun _ hk => hk.2)⟩, ⟨hB_⟩⟩
         ·rw [if_neg c37] at H
          have c37b0 := oD_ c37
          clear c37
          have H' := A_ H
          clear H
          go_wp2
          (try simp only [← hl5_2, ← hl5_3])
          go_roundg k3
          case measure => have := HJ2.out; have := HK2.out; have := HK3.out; omega
          case rel => exact ⟨(x5_3), (x6_3), (wrap64 (x7_2 + 1)), qc_, H', ⟨by have := HJ2.out; have := HK2.out; have := HK3.out; omega⟩, ⟨by (try simp only [hl5_2]); (try simp only [hl5_3]); (with_reducible repeat (first | apply rA_ | apply rB_ | apply rC_)); exact HO_5.out⟩, ⟨by (try simp only [hl5_2]); (try simp only [hl5_3]); (with_reducible repeat (first | apply rA_ | apply rB_ | apply rC_)); exact Kd.R_mono HO_6.out (fun _ hk => trivial)⟩, ⟨hB_⟩⟩
      ·rw [if_neg c27] at H
       have c27b0 := oD_ c27
       clear c27
       obtain rfl := Option.some.inj H
       obtain ⟨Ao49, co49, eo49⟩ := Kd.R_slice HO_6.out
       subst eo49
       go_wp2
       go_ret
       exact ⟨qb_, hB_⟩
end Go.Proofs.YtoijcallajegfaaGreat.A
end
section
namespace Go.Proofs.YtoijcallajegfaaGreat.A
open Go.RowKit Go.Proofs.YtoijcallajegfaaGreatW.PrintWords Go.Proofs.YtoijcallajegfaaGreatW.PrintLast Go.Proofs.YtoijcallajegfaaGreatW.PrintMore
attribute [local go_sem] max2_int min2_int max_two min_two max_three min_three max_four min_four
set_option linter.unusedVariables false
set_option linter.unusedSimpArgs false
def Z29.f (k : Nat) (l0_0 : List Int) (l0_1 : List Int) : Option (Bool) := (Z9.f k l0_0 l0_1).bind fun t471 => (some t471)
theorem Z29.mono : ∀ a0 a1 k, LeO (Z29.f k a0 a1) (Z29.f (k + 1) a0 a1) := by
 intro a0 a1 k
 unfold Z29.f
 repeat' first|exact Z9.mono _ _ _|exact lo_|refine LeO.ite ?_ ?_|refine LeO.bind ?_ (fun _ => ?_)
set_option maxHeartbeats 8000000 in
set_option maxRecDepth 100000 in
theorem Z29.calls (k : Nat) (A0_0 : Option Addr) (c0_0 : Nat) (l0_0 : List Int) (A0_1 : Option Addr) (c0_1 : Nat) (l0_1 : List Int) (r : Bool) (w : World) (hr0_0 : Kd.C (Kd.int .i64) w A0_0 l0_0.length l0_0) (hc0_0 : l0_0.length ≤ c0_0) (hr0_1 : Kd.C (Kd.int .i64) w A0_1 l0_1.length l0_1) (hc0_1 : l0_1.length ≤ c0_1) (h : Z29.f k l0_0 l0_1 = some r) :
  Calls Tryz.prog 88 #[.agg #[.slice A0_0 l0_0.length c0_0, .slice A0_1 l0_1.length c0_1]] w fun e w' => e = .returned (.bool r) ∧ Below w.heap.size w w' := by
 have hu38 := Tryz.underlying38
 have HR0_0 := A_ hr0_0
 have HC0_0 := A_ hc0_0
 clear hr0_0 hc0_0
 have HR0_1 := A_ hr0_1
 have HC0_1 := A_ hc0_1
 clear hr0_1 hc0_1
 have HB := A_ (Below.refl w.heap.size w)
 have H := h
 unfold Z29.f at H
 clear h
 obtain ⟨t471, A2, H⟩ := bi_ H
 obtain rfl := Option.some.inj H
 go_enter Tryz.func88, Tryz.ntmps88
 go_wp2_with (first | ((with_reducible refine gB_ (N := 1) rfl ?_); refine bx_ 1 #[.slice A0_0 l0_0.length c0_0, .slice A0_1 l0_1.length c0_1] 38 ?_; intro gb470 hg w3 hbox hb; have BK470 := A_ hbox; have GW470 := gw_ w hg; have GE470 := GW470; replace HB := b1_ hb; clear hb hbox hg; obtain ⟨hcz4_0, hcz4_1, hfz4_0, hfz4_1⟩ := c2_ BK470) | ((with_reducible refine gA_ (f := 108) rfl ?_); refine gL_ (some 7) Tryz.func108 #[.slice A0_0 l0_0.length c0_0, .slice A0_1 l0_1.length c0_1] rfl qa_ ?_; (with_reducible refine (Z9.calls k _ _ l0_0 _ _ l0_1 t471 _ (cb_ HR0_0) HC0_0.out (cb_ HR0_1) HC0_1.out A2.out).mono ?_); rintro e w5 ⟨rfl, hb⟩; refine ⟨_, rfl, ?_⟩; replace BK470 := bb_ BK470 hb; replace HB := b1_ hb; clear hb))
 go_ret
 exact ⟨qb_, hB_⟩
def Z8.f (k : Nat) (l0_0 : List Int) (l0_1 : List Int) : Option (Int) := (Z29.f k l0_0 l0_1).bind fun t473 => (if t473 = true then (some (l0_0.length : Int)) else (some 0))
theorem Z8.mono : ∀ a0 a1 k, LeO (Z8.f k a0 a1) (Z8.f (k + 1) a0 a1) := by
 intro a0 a1 k
 unfold Z8.f
 repeat' first|exact Z29.mono _ _ _|exact lo_|refine LeO.ite ?_ ?_|refine LeO.bind ?_ (fun _ => ?_)
set_option maxHeartbeats 8000000 in
set_option maxRecDepth 100000 in
theorem Z8.calls (k : Nat) (A0_0 : Option Addr) (c0_0 : Nat) (l0_0 : List Int) (A0_1 : Option Addr) (c0_1 : Nat) (l0_1 : List Int) (r : Int) (w : World) (hr0_0 : Kd.C (Kd.int .i64) w A0_0 l0_0.length l0_0) (hc0_0 : l0_0.length ≤ c0_0) (hr0_1 : Kd.C (Kd.int .i64) w A0_1 l0_1.length l0_1) (hc0_1 : l0_1.length ≤ c0_1) (h : Z8.f k l0_0 l0_1 = some r) :
  Calls Tryz.prog 84 #[.agg #[.slice A0_0 l0_0.length c0_0, .slice A0_1 l0_1.length c0_1]] w fun e w' => e = .returned (.int .i64 r) ∧ Below w.heap.size w w' := by
 have hu38 := Tryz.underlying38
 have HR0_0 := A_ hr0_0
 have HC0_0 := A_ hc0_0
 clear hr0_0 hc0_0
 have HR0_1 := A_ hr0_1
 have HC0_1 := A_ hc0_1
 clear hr0_1 hc0_1
 have HB := A_ (Below.refl w.heap.size w)
 have H := h
 unfold Z8.f at H
 clear h
 obtain ⟨t473, A2, H⟩ := bi_ H
 by_cases c3 : t473 = true
 ·subst c3
  rw [if_pos rfl] at H
  obtain rfl := Option.some.inj H
  go_enter Tryz.func84, Tryz.ntmps84
  go_wp2_with (first | ((with_reducible refine gB_ (N := 1) rfl ?_); refine bx_ 1 #[.slice A0_0 l0_0.length c0_0, .slice A0_1 l0_1.length c0_1] 38 ?_; intro gb472 hg w4 hbox hb; have BK472 := A_ hbox; have GW472 := gw_ w hg; have GE472 := GW472; replace HB := b1_ hb; clear hb hbox hg; obtain ⟨hcz5_0, hcz5_1, hfz5_0, hfz5_1⟩ := c2_ BK472) | ((with_reducible refine gA_ (f := 88) rfl ?_); refine gL_ (some 4) Tryz.func88 #[.agg #[.slice A0_0 l0_0.length c0_0, .slice A0_1 l0_1.length c0_1]] rfl qa_ ?_; (with_reducible refine (Z29.calls k _ _ l0_0 _ _ l0_1 true _ (cb_ HR0_0) HC0_0.out (cb_ HR0_1) HC0_1.out A2.out).mono ?_); rintro e w6 ⟨rfl, hb⟩; refine ⟨_, rfl, ?_⟩; replace BK472 := bb_ BK472 hb; replace HB := b1_ hb; clear hb; obtain ⟨hcz7_0, hcz7_1, hfz7_0, hfz7_1⟩ := c2_ BK472))
  go_ret
  exact ⟨qb_, hB_⟩
 ·replace c3 := Bool.eq_false_iff.mpr c3
  subst c3
  have H1 : (some 0) = some r := by rw [if_neg (show ¬ (false = true) by decide)] at H; exact H
  clear H
  have H := H1
  clear H1
  obtain rfl := Option.some.inj H
  go_enter Tryz.func84, Tryz.ntmps84
  go_wp2_with (first | ((with_reducible refine gB_ (N := 1) rfl ?_); refine bx_ 1 #[.slice A0_0 l0_0.length c0_0, .slice A0_1 l0_1.length c0_1] 38 ?_; intro gb472 hg w8 hbox hb; have BK472 := A_ hbox; have GW472 := gw_ w hg; have GE472 := GW472; replace HB := b1_ hb; clear hb hbox hg; obtain ⟨hcz9_0, hcz9_1, hfz9_0, hfz9_1⟩ := c2_ BK472) | ((with_reducible refine gA_ (f := 88) rfl ?_); refine gL_ (some 4) Tryz.func88 #[.agg #[.slice A0_0 l0_0.length c0_0, .slice A0_1 l0_1.length c0_1]] rfl qa_ ?_; (with_reducible refine (Z29.calls k _ _ l0_0 _ _ l0_1 false _ (cb_ HR0_0) HC0_0.out (cb_ HR0_1) HC0_1.out A2.out).mono ?_); rintro e w10 ⟨rfl, hb⟩; refine ⟨_, rfl, ?_⟩; replace BK472 := bb_ BK472 hb; replace HB := b1_ hb; clear hb))
  go_ret
  exact ⟨qb_, hB_⟩
end Go.Proofs.YtoijcallajegfaaGreat.A
end
section
namespace Go.Proofs.YtoijcallajegfaaGreat.A
open Go.RowKit Go.Proofs.YtoijcallajegfaaGreatW.PrintWords Go.Proofs.YtoijcallajegfaaGreatW.PrintLast Go.Proofs.YtoijcallajegfaaGreatW.PrintMore
attribute [local go_sem] max2_int min2_int max_two min_two max_three min_three max_four min_four
set_option linter.unusedVariables false
set_option linter.unusedSimpArgs false
mutual
def Z19.j0 : Nat → List Int → List Int → Bool → Option (List Int)
 | 0, _, _, _ => none
 | k + 1, x0, x1, x22 => if x22 = true then (some ([] : List Int)) else (if 0 ≤ (x0.length : Int) then (if ((x0.length : Int) : Int).toNat ≤ 35184372088832 then (Z19.l0 k x1 (List.replicate ((x0.length : Int) : Int).toNat 0) x0 (x0.length : Int) 0) else (none)) else (none))
def Z19.l0 : Nat → List Int → List Int → List Int → Int → Int → Option (List Int)
 | 0, _, _, _, _, _ => none
 | k + 1, x1, x5, x26, x27, x28 => if x28 < x27 then (if 0 ≤ x28 then (if x28 < (x26.length : Int) then (if x28 < (x1.length : Int) then (if 0 ≤ (rd x26 x28) then (if (rd x26 x28) < (x1.length : Int) then (if 0 ≤ (rd x1 x28) then (if (rd x1 x28) < (x5.length : Int) then (Z19.l0 k x1 (x5.set ((rd x1 x28) : Int).toNat (rd x1 (rd x26 x28))) x26 x27 (wrap64 (x28 + 1))) else (none)) else (none)) else (none)) else (none)) else (none)) else (none)) else (none)) else (some x5)
end
def Z19.f (k : Nat) (l0 : List Int) (l1 : List Int) : Option (List Int) := (Z61.f k l0).bind fun t474 => (if t474 = true then ((Z61.f k l1).bind fun t475 => (if t475 = true then (Z19.j0 k l0 l1 ((l0.length : Int) != (l1.length : Int))) else (Z19.j0 k l0 l1 true))) else (Z19.j0 k l0 l1 true))
theorem Z19.mono_l : ∀ k, (∀ y0 y1 y2, LeO (Z19.j0 k y0 y1 y2) (Z19.j0 (k + 1) y0 y1 y2)) ∧ (∀ y0 y1 y2 y3 y4, LeO (Z19.l0 k y0 y1 y2 y3 y4) (Z19.l0 (k + 1) y0 y1 y2 y3 y4))
 | 0 => ⟨fun _ _ _ r h => by simp [Z19.j0] at h, fun _ _ _ _ _ r h => by simp [Z19.l0] at h⟩
 | k + 1 => by
  obtain ⟨ih0, ih1⟩ := Z19.mono_l k
  refine ⟨?_, ?_⟩
  ·intro y0 y1 y2
   unfold Z19.j0
   repeat' first|exact ih0 _ _ _|exact ih1 _ _ _ _ _|exact Z61.mono _ _|exact lo_|refine LeO.ite ?_ ?_|refine LeO.bind ?_ (fun _ => ?_)
  ·intro y0 y1 y2 y3 y4
   unfold Z19.l0
   repeat' first|exact ih0 _ _ _|exact ih1 _ _ _ _ _|exact Z61.mono _ _|exact lo_|refine LeO.ite ?_ ?_|refine LeO.bind ?_ (fun _ => ?_)
theorem Z19.mono : ∀ a0 a1 k, LeO (Z19.f k a0 a1) (Z19.f (k + 1) a0 a1) := by
 intro a0 a1 k
 obtain ⟨ih0, ih1⟩ := Z19.mono_l k
 unfold Z19.f
 repeat' first|exact ih0 _ _ _|exact ih1 _ _ _ _ _|exact Z61.mono _ _|exact lo_|refine LeO.ite ?_ ?_|refine LeO.bind ?_ (fun _ => ?_)
def Z19.T7 : Bool × List (List Nat × List Nat) := (true, [([], []), ([], []), ([], []), ([1, 2], [1, 2]), ([3], [3]), ([], []), ([], []), ([5, 6], [5, 6]), ([7], [7]), ([0, 4, 0, 1, 2, 3, 4, 5, 6, 7, 8], [0, 4]), ([9, 8, 0, 1, 2, 3, 4, 5, 6, 7, 8], [8, 9])])
def Z19.B7 : List Nat := [0, 0, 0, 6, 14, 0, 0, 96, 224, 511, 1023]
theorem Z19.tab7 : rtab .any (opsOf Tryz.f99 7) = Z19.T7 := by kernel_rfl
theorem Z19.bits7 : waitsOk Z19.T7.2 Z19.B7 = true := by kernel_rfl
set_option maxHeartbeats 8000000 in
set_option maxRecDepth 100000 in
theorem Z19.calls (k : Nat) (A0 : Option Addr) (c0 : Nat) (l0 : List Int) (A1 : Option Addr) (c1 : Nat) (l1 : List Int) (r : List Int) (w : World) (hr0 : Kd.C (Kd.int .i64) w A0 l0.length l0) (hc0 : l0.length ≤ c0) (hr1 : Kd.C (Kd.int .i64) w A1 l1.length l1) (hc1 : l1.length ≤ c1) (h : Z19.f k l0 l1 = some r) :
  Calls Tryz.prog 99 #[.slice A0 l0.length c0, .slice A1 l1.length c1] w fun e w' => ∃ v0_ : Value, e = .returned (v0_) ∧ Kd.R (Kd.int .i64) 3 w' w.heap.size (fun _ => True) v0_ r ∧ Below w.heap.size w w' := by
 have HR0 := A_ hr0
 have HC0 := A_ hc0
 clear hr0 hc0
 have HR1 := A_ hr1
 have HC1 := A_ hc1
 clear hr1 hc1
 have HB := A_ (Below.refl w.heap.size w)
 have H := h
 unfold Z19.f at H
 clear h
 have HC3 := A_ H
 clear H
 go_enter Tryz.func99, Tryz.ntmps99
 go_upto_region 1 with (fail)
 go_cut [22] (fun v22 wc => ∃ (kq : Nat) (x22_2 : Bool), v22 = .bool x22_2 ∧ Aside0 (Z19.j0 kq l0 l1 x22_2 = some r) ∧ Aside0 (kq ≤ k) ∧ Aside0 (Below w.heap.size w wc))
 case first =>
  have H := HC3.out
  clear HC3
  obtain ⟨t474, A4, H⟩ := bi_ H
  by_cases c5 : t474 = true
  ·subst c5
   rw [if_pos rfl] at H
   obtain ⟨t475, A6, H⟩ := bi_ H
   by_cases c7 : t475 = true
   ·subst c7
    rw [if_pos rfl] at H
    have H' := A_ H
    clear H
    go_wp2_with (first | ((with_reducible refine gA_ (f := 98) rfl ?_); refine gL_ (some 9) Tryz.func98 #[.slice A0 l0.length c0] rfl qa_ ?_; (with_reducible refine (Z61.calls k _ _ l0 true _ (cb_ HR0) HC0.out A4.out).mono ?_); rintro e w8 ⟨rfl, hb⟩; refine ⟨_, rfl, ?_⟩; replace HB := b1_ hb; clear hb) | (go_at_call 98; (with_reducible refine (Z61.calls k _ _ l1 true _ (cb_ HR1) HC1.out A6.out).mono ?_); rintro e w9 ⟨rfl, hb⟩; replace HB := b1_ hb; clear hb))
    go_meet
    case rel => exact ⟨_, (((l0.length : Int) != (l1.length : Int))), qc_, H', ⟨qd_⟩, ⟨hB_⟩⟩
   ·replace c7 := Bool.eq_false_iff.mpr c7
    subst c7
    have H1 : (Z19.j0 k l0 l1 true) = some r := by rw [if_neg (show ¬ (false = true) by decide)] at H; exact H
    clear H
    have H := H1
    clear H1
    have H' := A_ H
    clear H
    go_wp2_with (first | ((with_reducible refine gA_ (f := 98) rfl ?_); refine gL_ (some 9) Tryz.func98 #[.slice A0 l0.length c0] rfl qa_ ?_; (with_reducible refine (Z61.calls k _ _ l0 true _ (cb_ HR0) HC0.out A4.out).mono ?_); rintro e w10 ⟨rfl, hb⟩; refine ⟨_, rfl, ?_⟩; replace HB := b1_ hb; clear hb) | (go_at_call 98; (with_reducible refine (Z61.calls k _ _ l1 false _ (cb_ HR1) HC1.out A6.out).mono ?_); rintro e w11 ⟨rfl, hb⟩; replace HB := b1_ hb; clear hb))
    go_meet
    case rel => exact ⟨_, (true), qc_, H', ⟨qd_⟩, ⟨hB_⟩⟩
  ·replace c5 := Bool.eq_false_iff.mpr c5
   subst c5
   have H1 : (Z19.j0 k l0 l1 true) = some r := by rw [if_neg (show ¬ (false = true) by decide)] at H; exact H
   clear H
   have H := H1
   clear H1
   have H' := A_ H
   clear H
   go_wp2_with (first | ((with_reducible refine gA_ (f := 98) rfl ?_); refine gL_ (some 9) Tryz.func98 #[.slice A0 l0.length c0] rfl qa_ ?_; (with_reducible refine (Z61.calls k _ _ l0 false _ (cb_ HR0) HC0.out A4.out).mono ?_); rintro e w12 ⟨rfl, hb⟩; refine ⟨_, rfl, ?_⟩; replace HB := b1_ hb; clear hb))
   go_meet
   case rel => exact ⟨_, (true), qc_, H', ⟨qd_⟩, ⟨hB_⟩⟩
 case rest =>
  clear HC3
  obtain ⟨kq, x22_2, rfl, HA, HJ2, HB⟩ := hcut
  cases kq with
  | zero => exact absurd HA.out (by simp [Z19.j0])
  | succ kj2 =>
   have H := HA.out
   clear HA
   simp only [Z19.j0] at H
   by_cases c13 : x22_2 = true
   ·subst c13
    rw [if_pos rfl] at H
    obtain rfl := Option.some.inj H
    go_wp2
    go_ret
    exact ⟨_, qb_, by first | exact Kd.R_nil _ _ _ _ _ | exact Kd.N_nil _ _ _ _ _ | exact Kd.V_nil _ _ _ _ _ | exact Kd.Q_nil _ _ _ _ _ | exact Kd.S_nil _ _ _ _ _, hB_⟩
   ·replace c13 := Bool.eq_false_iff.mpr c13
    subst c13
    have H1 : (if 0 ≤ (l0.length : Int) then (if ((l0.length : Int) : Int).toNat ≤ 35184372088832 then (Z19.l0 kj2 l1 (List.replicate ((l0.length : Int) : Int).toNat 0) l0 (l0.length : Int) 0) else (none)) else (none)) = some r := by rw [if_neg (show ¬ (false = true) by decide)] at H; exact H
    clear H
    have H := H1
    clear H1
    have c14 := cp_ H
    replace H := ca_ H
    have c14b0 := eq_true c14
    have c14b1 := oC_ c14
    clear c14
    have c15 := cp_ H
    replace H := ca_ H
    have c15b0 := eq_true c15
    have c15b1 := oC_ c15
    clear c15
    obtain ⟨y476, hy476⟩ : ∃ y_ : List Int, y_ = (List.replicate ((l0.length : Int) : Int).toNat 0) := ⟨_, rfl⟩
    replace H : (Z19.l0 kj2 l1 y476 l0 (l0.length : Int) 0) = some r := by first | (rw [hy476]; exact H) | exact H
    have Ny476 := A_ hy476
    clear hy476
    have H' := A_ H
    clear H
    go_wp2_with (first | ((with_reducible refine gB_ (N := 25) rfl ?_); (try (refine gate_guard (by rfl) ?_; dsimp only)); refine Kd.R_make (Kd.int .i64) _ 3 rfl (N := 25) rfl 27 _ _ rfl (l0.length : Int) rfl rfl Tryz.underlying27 (.int .i64 0) 8 info3 rfl (by decide) (by omega) 0 (ok := fun _ => True) (okp := fun _ => True) rfl (fun _ hk => hk) trivial (oB_ qe_) (Nat.le_trans (Nat.mul_le_mul_right _ (oB_ qe_ : (l0.length : Int).toNat ≤ 35184372088832)) (by omega)) (Below.refl _ _) (nA_ _) ?_; intro v477 w16 ho17 hb hg_ hnew_; clear hg_ hnew_; (first | rw [← Ny476.out] at ho17 | (simp only [Int.reduceToNat] at ho17; rw [← Ny476.out] at ho17)); have HO478 := rl_ w ho17; replace HB := b1_ hb; clear hb ho17))
    go_loopg [28] kj2 (fun kq v28 w' => ∃ (x5_2 : List Int) (x28_2 : Int), v28 = .int .i64 x28_2 ∧ Aside0 (Z19.l0 kq l1 x5_2 l0 (l0.length : Int) x28_2 = some r) ∧ Aside0 (kq ≤ kj2) ∧ Aside0 (Kd.R (Kd.int .i64) 3 w' w.heap.size (fun _ => True) v477 x5_2) ∧ Aside0 (Below w.heap.size w w'))
    case atStart => exact ⟨(y476), (0), qc_, H', ⟨nA_ _⟩, ⟨(rr_ HO478)⟩, ⟨hB_⟩⟩
    case round =>
     clear H'
     obtain ⟨x5_2, x28_2, rfl, HA, HK2, HO_5, HB⟩ := hrel
     cases gk with
     | zero => exact absurd HA.out (by simp [Z19.l0])
     | succ k2 =>
      have H := HA.out
      clear HA
      simp only [Z19.l0] at H
      by_cases c18 : x28_2 < (l0.length : Int)
      ·rw [if_pos c18] at H
       have c18b0 := oC_ c18
       clear c18
       have c19 := cp_ H
       replace H := ca_ H
       have c19b0 := oC_ c19
       clear c19
       have c20 := cp_ H
       replace H := ca_ H
       have c20b0 := oC_ c20
       clear c20
       have c21 := cp_ H
       replace H := ca_ H
       have c21b0 := oC_ c21
       clear c21
       have c22 := cp_ H
       replace H := ca_ H
       have c22b0 := oC_ c22
       clear c22
       have c23 := cp_ H
       replace H := ca_ H
       have c23b0 := oC_ c23
       clear c23
       have c24 := cp_ H
       replace H := ca_ H
       have c24b0 := oC_ c24
       clear c24
       have c25 := cp_ H
       replace H := ca_ H
       have c25b0 := oC_ c25
       clear c25
       obtain ⟨y482, hy482⟩ : ∃ y_ : List Int, y_ = (x5_2.set ((rd l1 x28_2) : Int).toNat (rd l1 (rd l0 x28_2))) := ⟨_, rfl⟩
       replace H : (Z19.l0 k2 l1 y482 l0 (l0.length : Int) (wrap64 (x28_2 + 1))) = some r := by first | (rw [hy482]; exact H) | exact H
       have Ny482 := A_ hy482
       clear hy482
       have H' := A_ H
       clear H
       have p479 : 0 ≤ (x28_2 : Int) := oB_ qe_
       have q479 : x28_2 < (l0.length : Int) := oB_ qe_
       obtain ⟨ad479, e479, hx479_0⟩ := Kd.at_int HR0.out x28_2 p479 q479
       cases e479
       replace hx479_0 := (HB.out.cell (World.block_lt_of_cell? w _ hx479_0)).trans hx479_0
       replace p479 := eq_true p479
       replace q479 := eq_true q479
       try go_wp2
       replace HO_5 := A_ (rC_ HO_5.out)
       replace HB := A_ (bC_ HB.out)
       have p480 : 0 ≤ (x28_2 : Int) := oB_ qe_
       have q480 : x28_2 < (l1.length : Int) := oB_ qe_
       obtain ⟨ad480, e480, hx480_0⟩ := Kd.at_int HR1.out x28_2 p480 q480
       have hw480_0 := hx480_0
       cases e480
       replace hx480_0 := (HB.out.cell (World.block_lt_of_cell? w _ hx480_0)).trans hx480_0
       replace p480 := eq_true p480
       replace q480 := eq_true q480
       have p481 : 0 ≤ ((rd l0 x28_2) : Int) := oB_ qe_
       have q481 : (rd l0 x28_2) < (l1.length : Int) := oB_ qe_
       obtain ⟨ad481, e481, hx481_0⟩ := Kd.at_int HR1.out (rd l0 x28_2) p481 q481
       have hw481_0 := hx481_0
       obtain rfl : ad480 = ad481 := (by injection e481)
       replace hx481_0 := (HB.out.cell (World.block_lt_of_cell? w _ hx481_0)).trans hx481_0
       replace p481 := eq_true p481
       replace q481 := eq_true q481
       have p26 : 0 ≤ ((rd l1 x28_2) : Int) := oB_ qe_
       have q26 : ((rd l1 x28_2) : Int) < ((x5_2.length : Int) : Int) := oB_ qe_
       obtain ⟨go26, co26, eo26, gb26, gl26, cl26, HG26⟩ := Kd.R_form HO_5.out (by omega)
       (first | cases eo26 | (injection eo26 with ea_ en_ ec_; (first | subst ea_ | (injection ea_ with ea_; subst ea_)); subst ec_; clear en_))
       have GB26 := A_ gb26
       have GG26 := A_ HG26
       clear gb26 gl26 HG26
       obtain ⟨hx26_0, hf26_0⟩ := Kd.R_celln 0 HO_5.out ((rd l1 x28_2) : Int) p26 q26
       replace p26 := eq_true p26
       replace q26 := eq_true q26
       have HP28 := Kd.R_putn HO_5.out ((rd l1 x28_2) : Int) (rd l1 (rd l0 x28_2))
       rw [← Ny482.out] at HP28
       have HQ28 := A_ HP28
       clear HP28
       refine start_ (n := 11) (S := fun w' => w'.cell? (ad480.add (x28_2).toNat) = some (.int .i64 (rd l1 x28_2)) ∧ w'.cell? (ad480.add ((rd l0 x28_2)).toNat) = some (.int .i64 (rd l1 (rd l0 x28_2)))) (ds := [10]) (bl_ 11 0) (by kernel_rfl) rfl (by kernel_rfl) ⟨((HB.out.cell (World.block_lt_of_cell? w _ hw480_0)).trans hw480_0), ((HB.out.cell (World.block_lt_of_cell? w _ hw481_0)).trans hw481_0)⟩ (fun hHeld => ?_); refine with_tabW Z19.tab7 Z19.bits7 (fun HT_ HW_ => ?_)
       generalize wr.drew = w27 at HO_5 HB GG26 HQ28 hf26_0 hx26_0 hx480_0 hx481_0 hHeld ⊢
       refine pu_ 0 (some 33) (bl_ 11 1) HT_ ?_
       refine pu_ 1 (some 34) (bl_ 11 3) HT_ ?_
       refine pu_ 2 (some 35) (bl_ 11 7) HT_ ?_
       refine pu_ 3 (some 36) (bl_ 11 15) HT_ ?_
       refine pu_ 5 (some 38) (bl_ 11 47) HT_ ?_
       refine pu_ 6 (some 39) (bl_ 11 111) HT_ ?_
       refine pu_ 7 (some 40) (bl_ 11 239) HT_ ?_
       refine ta_ 4 (some 37) (bl_ 11 255) HT_ HW_ hHeld ?_
       refine ta_ 8 (some 41) (bl_ 11 511) HT_ HW_ hHeld ?_
       refine pu_ 9 (some 42) (bl_ 11 1023) HT_ ?_
       refine last_ (i := 10) (N := none) (bl_ 11 2047) rfl rfl (one_of HT_.out (by kernel_rfl)) (by decide) (fun K hK => ?_)
       refine skip_ (w1 := ?_) (by rfl) rfl ?_ ?_
       rotate_left
       ·go_simp
        rfl
       refine hK.out _ _ ?_
       clear hK K
       refine done_ (done_of HT_.out (by kernel_rfl)) ?_
       try go_wp2
       go_roundg k2
       case measure => have := HJ2.out; have := HK2.out; omega
       case rel => exact ⟨(y482), (wrap64 (x28_2 + 1)), qc_, H', ⟨by have := HJ2.out; have := HK2.out; omega⟩, ⟨(rr_ HQ28)⟩, ⟨by repeat (first | (with_reducible first | exact HB.out | apply bA_ | apply bB_ | apply bC_ | refine bD_ ?_ GB26.out) | exact HB.out)⟩⟩
      ·rw [if_neg c18] at H
       have c18b0 := oD_ c18
       clear c18
       obtain rfl := Option.some.inj H
       go_wp2
       go_ret
       exact ⟨_, qb_, (rr_ HO_5), hB_⟩
end Go.Proofs.YtoijcallajegfaaGreat.A
end
section
namespace Go.Proofs.YtoijcallajegfaaGreat.A
open Go.RowKit Go.Proofs.YtoijcallajegfaaGreatW.PrintWords Go.Proofs.YtoijcallajegfaaGreatW.PrintLast Go.Proofs.YtoijcallajegfaaGreatW.PrintMore
attribute [local go_sem] max2_int min2_int max_two min_two max_three min_three max_four min_four
set_option linter.unusedVariables false
set_option linter.unusedSimpArgs false
def Z7.j0 : Nat → List Int → Bool → List Int → List Int → Option (List Int × List Int × Bool)
 | 0, _, _, _, _ => none
 | k + 1, x1, x21, x484000, x484001 => if x21 = true then (some (([] : List Int), ([] : List Int), false)) else ((Z19.f k x484000 x1).bind fun t487 => ((Z19.f k x484001 x1).bind fun t490 => (some (t487, t490, true))))
def Z7.f (k : Nat) (l0_0 : List Int) (l0_1 : List Int) (l1 : List Int) : Option (List Int × List Int × Bool) := (Z29.f k l0_0 l0_1).bind fun t485 => (if t485 = true then ((Z61.f k l1).bind fun t486 => (if t486 = true then (Z7.j0 k l1 ((l1.length : Int) != (l0_0.length : Int)) l0_0 l0_1) else (Z7.j0 k l1 true l0_0 l0_1))) else (Z7.j0 k l1 true l0_0 l0_1))
theorem Z7.mono_l : ∀ k, (∀ y0 y1 y2 y3, LeO (Z7.j0 k y0 y1 y2 y3) (Z7.j0 (k + 1) y0 y1 y2 y3))
 | 0 => fun _ _ _ _ r h => by simp [Z7.j0] at h
 | k + 1 => by
  have ih0 := Z7.mono_l k
  ·intro y0 y1 y2 y3
   unfold Z7.j0
   repeat' first|exact ih0 _ _ _ _|exact Z61.mono _ _|exact Z19.mono _ _ _|exact Z29.mono _ _ _|exact lo_|refine LeO.ite ?_ ?_|refine LeO.bind ?_ (fun _ => ?_)
theorem Z7.mono : ∀ a0 a1 a2 k, LeO (Z7.f k a0 a1 a2) (Z7.f (k + 1) a0 a1 a2) := by
 intro a0 a1 a2 k
 have ih0 := Z7.mono_l k
 unfold Z7.f
 repeat' first|exact ih0 _ _ _ _|exact Z61.mono _ _|exact Z19.mono _ _ _|exact Z29.mono _ _ _|exact lo_|refine LeO.ite ?_ ?_|refine LeO.bind ?_ (fun _ => ?_)
def Z7.T3 : Bool × List (List Nat × List Nat) := (true, [([], []), ([0], [0]), ([], []), ([1, 2], [1, 2]), ([], []), ([4], [4]), ([], []), ([5, 6, 3], [5, 6]), ([3, 7], [3, 7]), ([8, 7, 0, 1, 2, 3, 4, 5, 6, 7, 8], [8]), ([9, 0, 1, 2, 3, 4, 5, 6, 7, 8, 9], [])])
def Z7.B3 : List Nat := [0, 1, 0, 7, 0, 16, 0, 127, 255, 511, 1023]
theorem Z7.tab3 : rtab .any (opsOf Tryz.f85 3) = Z7.T3 := by kernel_rfl
theorem Z7.bits3 : waitsOk Z7.T3.2 Z7.B3 = true := by kernel_rfl
set_option maxHeartbeats 8000000 in
set_option maxRecDepth 100000 in
theorem Z7.calls (k : Nat) (A0_0 : Option Addr) (c0_0 : Nat) (l0_0 : List Int) (A0_1 : Option Addr) (c0_1 : Nat) (l0_1 : List Int) (A1 : Option Addr) (c1 : Nat) (l1 : List Int) (r1 : List Int) (r2 : List Int) (r3 : Bool) (w : World) (hr0_0 : Kd.C (Kd.int .i64) w A0_0 l0_0.length l0_0) (hc0_0 : l0_0.length ≤ c0_0) (hr0_1 : Kd.C (Kd.int .i64) w A0_1 l0_1.length l0_1) (hc0_1 : l0_1.length ≤ c0_1) (hr1 : Kd.C (Kd.int .i64) w A1 l1.length l1) (hc1 : l1.length ≤ c1) (h : Z7.f k l0_0 l0_1 l1 = some (r1, r2, r3)) :
  Calls Tryz.prog 85 #[.agg #[.slice A0_0 l0_0.length c0_0, .slice A0_1 l0_1.length c0_1], .slice A1 l1.length c1] w fun e w' => ∃ v0_ v1_ : Value, e = .returned (.tuple #[.agg #[v0_, v1_], .bool r3]) ∧ Kd.R (Kd.int .i64) 3 w' w.heap.size (fun k_ => some k_ ≠ (v1_ : Value).ownBlock) v0_ r1 ∧ Kd.R (Kd.int .i64) 3 w' w.heap.size (fun k_ => some k_ ≠ (v0_ : Value).ownBlock) v1_ r2 ∧ Below w.heap.size w w' := by
 have hu38 := Tryz.underlying38
 have HR0_0 := A_ hr0_0
 have HC0_0 := A_ hc0_0
 clear hr0_0 hc0_0
 have HR0_1 := A_ hr0_1
 have HC0_1 := A_ hc0_1
 clear hr0_1 hc0_1
 have HR1 := A_ hr1
 have HC1 := A_ hc1
 clear hr1 hc1
 have HB := A_ (Below.refl w.heap.size w)
 have H := h
 unfold Z7.f at H
 clear h
 have HC3 := A_ H
 clear H
 go_enter Tryz.func85, Tryz.ntmps85
 go_upto_region 1 with (first | ((with_reducible refine gB_ (N := 2) rfl ?_); (try (refine gate_guard (by rfl) ?_; dsimp only)); refine bx_ 2 #[.slice A0_0 l0_0.length c0_0, .slice A0_1 l0_1.length c0_1] 38 ?_; intro gb483 hg w4 hbox hb; have BK483 := A_ hbox; have GW483 := gw_ w hg; have GE483 := GW483; replace HB := b1_ hb; clear hb hbox hg) | ((with_reducible refine gB_ (N := 4) rfl ?_); (try (refine gate_guard (by rfl) ?_; dsimp only)); refine bx_ 4 #[.slice none 0 0, .slice none 0 0] 38 ?_; intro gb484 hg w5 hbox hb; have BK484 := A_ hbox; have GW484 := gw_ w hg; have GE484 := GW484; replace HB := b1_ hb; have NB483_484 := gN_ BK483 hg; have NB484_483 := gP_ BK483 hg; replace BK483 := bb_ BK483 hb; clear hb hbox hg))
 (try simp only [Act.put, sA_, sB_, sC_])
 go_cut [21] (fun v21 wc => ∃ (kq : Nat) (x21_2 : Bool), v21 = .bool x21_2 ∧ Aside0 (Z7.j0 kq l1 x21_2 l0_0 l0_1 = some (r1, r2, r3)) ∧ Aside0 (kq ≤ k) ∧ Aside0 (wc.heap[gb483]? = some (.cells #[(.slice A0_0 l0_0.length c0_0), (.slice A0_1 l0_1.length c0_1)] 38 (0, 0))) ∧ Aside0 (wc.heap[gb484]? = some (.cells #[(.slice none 0 0), (.slice none 0 0)] 38 (0, 0))) ∧ Aside0 (Below w.heap.size w wc))
 case first =>
  have H := HC3.out
  clear HC3
  obtain ⟨t485, A6, H⟩ := bi_ H
  by_cases c7 : t485 = true
  ·subst c7
   rw [if_pos rfl] at H
   obtain ⟨t486, A8, H⟩ := bi_ H
   by_cases c9 : t486 = true
   ·subst c9
    rw [if_pos rfl] at H
    have H' := A_ H
    clear H
    have hnb10 := NB483_484.out
    have hnc10 := NB484_483.out
    obtain ⟨hcz11_0, hcz11_1, hfz11_0, hfz11_1⟩ := c2_ BK483
    go_wp2_with (first | ((with_reducible refine gA_ (f := 88) rfl ?_); refine gL_ (some 7) Tryz.func88 #[.agg #[.slice A0_0 l0_0.length c0_0, .slice A0_1 l0_1.length c0_1]] rfl qa_ ?_; (with_reducible refine (Z29.calls k _ _ l0_0 _ _ l0_1 true _ (cb_ HR0_0) HC0_0.out (cb_ HR0_1) HC0_1.out A6.out).mono ?_); rintro e w12 ⟨rfl, hb⟩; refine ⟨_, rfl, ?_⟩; replace BK483 := bb_ BK483 hb; replace BK484 := bb_ BK484 hb; replace HB := b1_ hb; clear hb) | (go_at_call 98; (with_reducible refine (Z61.calls k _ _ l1 true _ (cb_ HR1) HC1.out A8.out).mono ?_); rintro e w13 ⟨rfl, hb⟩; replace BK483 := bb_ BK483 hb; replace BK484 := bb_ BK484 hb; replace HB := b1_ hb; clear hb; obtain ⟨hcz14_0, hcz14_1, hfz14_0, hfz14_1⟩ := c2_ BK483))
    go_meet
    case rel => exact ⟨_, (((l1.length : Int) != (l0_0.length : Int))), qc_, H', ⟨qd_⟩, ⟨(kk_ BK483)⟩, ⟨(kk_ BK484)⟩, ⟨hB_⟩⟩
   ·replace c9 := Bool.eq_false_iff.mpr c9
    subst c9
    have H1 : (Z7.j0 k l1 true l0_0 l0_1) = some (r1, r2, r3) := by rw [if_neg (show ¬ (false = true) by decide)] at H; exact H
    clear H
    have H := H1
    clear H1
    have H' := A_ H
    clear H
    have hnb15 := NB483_484.out
    have hnc15 := NB484_483.out
    obtain ⟨hcz16_0, hcz16_1, hfz16_0, hfz16_1⟩ := c2_ BK483
    go_wp2_with (first | ((with_reducible refine gA_ (f := 88) rfl ?_); refine gL_ (some 7) Tryz.func88 #[.agg #[.slice A0_0 l0_0.length c0_0, .slice A0_1 l0_1.length c0_1]] rfl qa_ ?_; (with_reducible refine (Z29.calls k _ _ l0_0 _ _ l0_1 true _ (cb_ HR0_0) HC0_0.out (cb_ HR0_1) HC0_1.out A6.out).mono ?_); rintro e w17 ⟨rfl, hb⟩; refine ⟨_, rfl, ?_⟩; replace BK483 := bb_ BK483 hb; replace BK484 := bb_ BK484 hb; replace HB := b1_ hb; clear hb) | (go_at_call 98; (with_reducible refine (Z61.calls k _ _ l1 false _ (cb_ HR1) HC1.out A8.out).mono ?_); rintro e w18 ⟨rfl, hb⟩; replace BK483 := bb_ BK483 hb; replace BK484 := bb_ BK484 hb; replace HB := b1_ hb; clear hb))
    go_meet
    case rel => exact ⟨_, (true), qc_, H', ⟨qd_⟩, ⟨(kk_ BK483)⟩, ⟨(kk_ BK484)⟩, ⟨hB_⟩⟩
  ·replace c7 := Bool.eq_false_iff.mpr c7
   subst c7
   have H1 : (Z7.j0 k l1 true l0_0 l0_1) = some (r1, r2, r3) := by rw [if_neg (show ¬ (false = true) by decide)] at H; exact H
   clear H
   have H := H1
   clear H1
   have H' := A_ H
   clear H
   have hnb19 := NB483_484.out
   have hnc19 := NB484_483.out
   obtain ⟨hcz20_0, hcz20_1, hfz20_0, hfz20_1⟩ := c2_ BK483
   go_wp2_with (first | ((with_reducible refine gA_ (f := 88) rfl ?_); refine gL_ (some 7) Tryz.func88 #[.agg #[.slice A0_0 l0_0.length c0_0, .slice A0_1 l0_1.length c0_1]] rfl qa_ ?_; (with_reducible refine (Z29.calls k _ _ l0_0 _ _ l0_1 false _ (cb_ HR0_0) HC0_0.out (cb_ HR0_1) HC0_1.out A6.out).mono ?_); rintro e w21 ⟨rfl, hb⟩; refine ⟨_, rfl, ?_⟩; replace BK483 := bb_ BK483 hb; replace BK484 := bb_ BK484 hb; replace HB := b1_ hb; clear hb))
   go_meet
   case rel => exact ⟨_, (true), qc_, H', ⟨qd_⟩, ⟨(kk_ BK483)⟩, ⟨(kk_ BK484)⟩, ⟨hB_⟩⟩
 case rest =>
  clear HC3
  obtain ⟨kq, x21_2, rfl, HA, HJ2, BK483, BK484, HB⟩ := hcut
  cases kq with
  | zero => exact absurd HA.out (by simp [Z7.j0])
  | succ kj2 =>
   have H := HA.out
   clear HA
   simp only [Z7.j0] at H
   by_cases c22 : x21_2 = true
   ·subst c22
    rw [if_pos rfl] at H
    simp only [Option.some.injEq, Prod.mk.injEq] at H
    obtain ⟨rfl, rfl, rfl⟩ := H
    have hnb23 := NB484_483.out
    have hnc23 := NB483_484.out
    obtain ⟨hcz24_0, hcz24_1, hfz24_0, hfz24_1⟩ := c2_ BK484
    go_wp2
    refine bodyPost_ret (results_ct rfl _ _ gb484 38 #[.slice none 0 0, .slice none 0 0] (0, 0) _ rfl qp_ Tryz.underlying38 rfl (by kernel_rfl)) rfl ?_
    exact ⟨_, _, qb_, by first | exact Kd.R_nil _ _ _ _ _ | exact Kd.N_nil _ _ _ _ _ | exact Kd.V_nil _ _ _ _ _ | exact Kd.Q_nil _ _ _ _ _ | exact Kd.S_nil _ _ _ _ _, by first | exact Kd.R_nil _ _ _ _ _ | exact Kd.N_nil _ _ _ _ _ | exact Kd.V_nil _ _ _ _ _ | exact Kd.Q_nil _ _ _ _ _ | exact Kd.S_nil _ _ _ _ _, hB_⟩
   ·replace c22 := Bool.eq_false_iff.mpr c22
    subst c22
    have H1 : ((Z19.f kj2 l0_0 l1).bind fun t487 => ((Z19.f kj2 l0_1 l1).bind fun t490 => (some (t487, t490, true)))) = some (r1, r2, r3) := by rw [if_neg (show ¬ (false = true) by decide)] at H; exact H
    clear H
    have H := H1
    clear H1
    obtain ⟨t487, A25, H⟩ := bi_ H
    obtain ⟨t490, A26, H⟩ := bi_ H
    simp only [Option.some.injEq, Prod.mk.injEq] at H
    obtain ⟨rfl, rfl, rfl⟩ := H
    try go_wp2
    replace BK483 := A_ (kB_ BK483.out)
    replace BK484 := A_ (kB_ BK484.out)
    replace HB := A_ (bC_ HB.out)
    refine start_ (n := 11) (S := fun w' => w'.cell? ⟨gb483, 0, none⟩ = some (.slice A0_0 l0_0.length c0_0) ∧ w'.cell? ⟨gb483, 1, none⟩ = some (.slice A0_1 l0_1.length c0_1)) (ds := []) (bl_ 11 0) (by kernel_rfl) rfl (by kernel_rfl) ⟨cz0_ BK483, cz1_ BK483⟩ (fun hHeld => ?_); refine with_tabW Z7.tab3 Z7.bits3 (fun HT_ HW_ => ?_)
    generalize wc.drew = w27 at BK483 BK484 HB hHeld ⊢
    refine pu_ 0 (some 23) (bl_ 11 1) HT_ ?_
    refine pu_ 2 (some 25) (bl_ 11 5) HT_ ?_
    refine pu_ 4 (some 27) (bl_ 11 21) HT_ ?_
    refine pu_ 6 (some 29) (bl_ 11 85) HT_ ?_
    refine ta_ 1 (some 24) (bl_ 11 87) HT_ HW_ hHeld ?_
    refine ta_ 5 (some 28) (bl_ 11 119) HT_ HW_ hHeld ?_
    refine on_ 3 (some 26) (bl_ 11 127) HT_ (fun K hK => ?_)
    refine gO_ Tryz.func99 #[.slice A0_0 l0_0.length c0_0, .slice A1 l1.length c1] (by rfl) rfl rfl qa_ ?_
    with_reducible refine (Z19.calls kj2 _ _ l0_0 _ _ l1 t487 _ (cb_ HR0_0) HC0_0.out (cb_ HR1) HC1.out A25.out).mono ?_
    rintro e w28 ⟨v488, rfl, ho0, hb⟩
    refine ⟨_, rfl, ?_⟩
    have HO489 := rl_ w ho0
    replace BK483 := bb_ BK483 hb
    replace BK484 := bb_ BK484 hb
    replace HB := b1_ hb
    clear hb ho0
    refine hK.out _ _ ⟨cz0_ BK483, cz1_ BK483⟩ (fun hHeld => ?_)
    clear hK K
    refine no_ (some 26) ?_
    refine on_ 7 (some 30) (bl_ 11 255) HT_ (fun K hK => ?_)
    refine gO_ Tryz.func99 #[.slice A0_1 l0_1.length c0_1, .slice A1 l1.length c1] (by rfl) rfl rfl qa_ ?_
    with_reducible refine (Z19.calls kj2 _ _ l0_1 _ _ l1 t490 _ (cb_ HR0_1) HC0_1.out (cb_ HR1) HC1.out A26.out).mono ?_
    rintro e w29 ⟨v491, rfl, ho0, hb⟩
    refine ⟨_, rfl, ?_⟩
    have HO492 := A_ (rE_ (Kd.R_new' ho0 (Kd.R_lt (rr_ HO489))) (bF_ hB_))
    replace HO489 := A_ (Kd.R_elder' (rr_ HO489) (Kd.R_base ho0) hb)
    replace BK483 := bb_ BK483 hb
    replace BK484 := bb_ BK484 hb
    replace HB := b1_ hb
    clear hb ho0
    obtain ⟨Ao30, co30, eo30⟩ := Kd.R_slice HO492.out
    (first | subst eo30 | (injection eo30 with f1_ f2_ f3_; have f4_ := f1_.symm; have f5_ := f3_.symm; clear f1_ f2_ f3_; subst f4_; subst f5_))
    obtain ⟨Ao31, co31, eo31⟩ := Kd.R_slice HO489.out
    (first | subst eo31 | (injection eo31 with f1_ f2_ f3_; have f4_ := f1_.symm; have f5_ := f3_.symm; clear f1_ f2_ f3_; subst f4_; subst f5_))
    refine hK.out _ _ ⟨cz0_ BK483, cz1_ BK483⟩ (fun hHeld => ?_)
    clear hK K
    refine no_ (some 30) ?_
    refine pu_ 8 (some 31) (bl_ 11 511) HT_ ?_
    refine on_ 9 (none) (bl_ 11 1023) HT_ (fun K hK => ?_)
    have hs32 : w29.cell? ⟨gb484, 0, none⟩ = some (.slice none 0 0) := cz0_ BK484
    have hfs32 := kD_ BK484.out 0
    have hns32_0 := NB483_484.out
    have hms32_0 := NB484_483.out
    have hs33 : w29.cell? ⟨gb484, 1, none⟩ = some (.slice none 0 0) := cz1_ BK484
    have hfs33 := kD_ BK484.out 1
    have hns33_0 := NB483_484.out
    have hms33_0 := NB484_483.out
    refine skip_ (w1 := ?_) (by rfl) rfl ?_ ?_
    rotate_left
    ·go_simp
     rfl
    refine hK.out _ _ ⟨((cell_far (p := ⟨gb484, _, none⟩) NB483_484.out _).trans (((cell_far (p := ⟨gb484, _, none⟩) NB483_484.out _).trans (hHeld.1)))), ((cell_far (p := ⟨gb484, _, none⟩) NB483_484.out _).trans (((cell_far (p := ⟨gb484, _, none⟩) NB483_484.out _).trans (hHeld.2))))⟩ (fun hHeld => ?_)
    clear hK K
    refine pu_ 10 (some 5) (bl_ 11 2047) HT_ ?_
    refine done_ (done_of HT_.out (by kernel_rfl)) ?_
    try go_wp2
    refine bodyPost_ret (results_ct rfl _ _ gb484 38 #[.slice Ao31 t487.length co31, .slice Ao30 t490.length co30] (0, 0) _ rfl qp_ Tryz.underlying38 rfl (by kernel_rfl)) rfl ?_
    exact ⟨_, _, qb_, (rw_ (Kd.R_mono (fa_ HO489 BK484) (fun _ hk => hk.2))), (rw_ (Kd.R_mono (fa_ HO492 BK484) (fun _ hk => hk.2))), hB_⟩
end Go.Proofs.YtoijcallajegfaaGreat.A
end
section
namespace Go.Proofs.YtoijcallajegfaaGreat.A
open Go.RowKit Go.Proofs.YtoijcallajegfaaGreatW.PrintWords Go.Proofs.YtoijcallajegfaaGreatW.PrintLast Go.Proofs.YtoijcallajegfaaGreatW.PrintMore
attribute [local go_sem] max2_int min2_int max_two min_two max_three min_three max_four min_four
set_option linter.unusedVariables false
set_option linter.unusedSimpArgs false
mutual
def Z27.j0 : Nat → Int → Bool → List Int → List Int → Option (List Int)
 | 0, _, _, _, _ => none
 | k + 1, x1, x24, x494000, x494001 => if x24 = true then (some ([] : List Int)) else (if 0 ≤ (x494000.length : Int) then (if ((x494000.length : Int) : Int).toNat ≤ 35184372088832 then ((some (List.replicate ((x494000.length : Int) : Int).toNat 0 : List Int)).bind fun y495 => (Z27.l0 k x1 y495 (y495.length : Int) 0 x494000 x494001)) else (none)) else (none))
def Z27.l0 : Nat → Int → List Int → Int → Int → List Int → List Int → Option (List Int)
 | 0, _, _, _, _, _, _ => none
 | k + 1, x1, x5, x30, x31, x494000, x494001 => if x31 < x30 then (if 0 ≤ x31 then (if x31 < (x5.length : Int) then (Z27.l0 k x1 (x5.set (x31 : Int).toNat (-1)) x30 (wrap64 (x31 + 1)) x494000 x494001) else (none)) else (none)) else (if 0 ≤ x1 then (if x1 < (x5.length : Int) then (Z27.l1 k (x5.set (x1 : Int).toNat 0) (([x1] : List Int)) 0 x494000 x494001) else (none)) else (none))
def Z27.l1 : Nat → List Int → List Int → Int → List Int → List Int → Option (List Int)
 | 0, _, _, _, _, _ => none
 | k + 1, x5, x7, x8, x494000, x494001 => if x8 < (x7.length : Int) then (if 0 ≤ x8 then (if 0 ≤ (rd x7 x8) then (if (rd x7 x8) < (x494000.length : Int) then (if (rd x7 x8) < (x494001.length : Int) then ((some (([rd x494000 (rd x7 x8), rd x494001 (rd x7 x8)] : List Int) : List Int)).bind fun y507 => (Z27.l2 k x5 x7 x8 y507 (y507.length : Int) 0 x494000 x494001)) else (none)) else (none)) else (none)) else (none)) else (some x5)
def Z27.l2 : Nat → List Int → List Int → Int → List Int → Int → Int → List Int → List Int → Option (List Int)
 | 0, _, _, _, _, _, _, _, _ => none
 | k + 1, x5, x7, x8, x65, x66, x67, x494000, x494001 => if x67 < x66 then (if 0 ≤ x67 then (if x67 < (x65.length : Int) then (if 0 ≤ (rd x65 x67) then (if (rd x65 x67) < (x5.length : Int) then (if (rd x5 (rd x65 x67)) < 0 then (if x7.length < 17592186044416 then (Z27.l2 k (x5.set ((rd x65 x67) : Int).toNat (x7.length : Int)) (x7 ++ [rd x65 x67]) x8 x65 x66 (wrap64 (x67 + 1)) x494000 x494001) else (none)) else (Z27.l2 k x5 x7 x8 x65 x66 (wrap64 (x67 + 1)) x494000 x494001)) else (none)) else (none)) else (none)) else (none)) else (Z27.l1 k x5 x7 (wrap64 (x8 + 1)) x494000 x494001)
end
def Z27.f (k : Nat) (l0_0 : List Int) (l0_1 : List Int) (a1 : Int) : Option (List Int) := (Z29.f k l0_0 l0_1).bind fun t494 => (if t494 = true then (if a1 < 0 then (Z27.j0 k a1 true l0_0 l0_1) else (Z27.j0 k a1 (decide (a1 ≥ (l0_0.length : Int))) l0_0 l0_1)) else (Z27.j0 k a1 true l0_0 l0_1))
theorem Z27.mono_l : ∀ k, (∀ y0 y1 y2 y3, LeO (Z27.j0 k y0 y1 y2 y3) (Z27.j0 (k + 1) y0 y1 y2 y3)) ∧ (∀ y0 y1 y2 y3 y4 y5, LeO (Z27.l0 k y0 y1 y2 y3 y4 y5) (Z27.l0 (k + 1) y0 y1 y2 y3 y4 y5)) ∧ (∀ y0 y1 y2 y3 y4, LeO (Z27.l1 k y0 y1 y2 y3 y4) (Z27.l1 (k + 1) y0 y1 y2 y3 y4)) ∧ (∀ y0 y1 y2 y3 y4 y5 y6 y7, LeO (Z27.l2 k y0 y1 y2 y3 y4 y5 y6 y7) (Z27.l2 (k + 1) y0 y1 y2 y3 y4 y5 y6 y7))
 | 0 => ⟨fun _ _ _ _ r h => by simp [Z27.j0] at h, fun _ _ _ _ _ _ r h => by simp [Z27.l0] at h, fun _ _ _ _ _ r h => by simp [Z27.l1] at h, fun _ _ _ _ _ _ _ _ r h => by simp [Z27.l2] at h⟩
 | k + 1 => by
  obtain ⟨ih0, ih1, ih2, ih3⟩ := Z27.mono_l k
  refine ⟨?_, ?_, ?_, ?_⟩
  ·intro y0 y1 y2 y3
   unfold Z27.j0
   repeat' first|exact ih0 _ _ _ _|exact ih1 _ _ _ _ _ _|exact ih2 _ _ _ _ _|exact ih3 _ _ _ _ _ _ _ _|exact Z29.mono _ _ _|exact lo_|refine LeO.ite ?_ ?_|refine LeO.bind ?_ (fun _ => ?_)
  ·intro y0 y1 y2 y3 y4 y5
   unfold Z27.l0
   repeat' first|exact ih0 _ _ _ _|exact ih1 _ _ _ _ _ _|exact ih2 _ _ _ _ _|exact ih3 _ _ _ _ _ _ _ _|exact Z29.mono _ _ _|exact lo_|refine LeO.ite ?_ ?_|refine LeO.bind ?_ (fun _ => ?_)
  ·intro y0 y1 y2 y3 y4
   unfold Z27.l1
   repeat' first|exact ih0 _ _ _ _|exact ih1 _ _ _ _ _ _|exact ih2 _ _ _ _ _|exact ih3 _ _ _ _ _ _ _ _|exact Z29.mono _ _ _|exact lo_|refine LeO.ite ?_ ?_|refine LeO.bind ?_ (fun _ => ?_)
  ·intro y0 y1 y2 y3 y4 y5 y6 y7
   unfold Z27.l2
   repeat' first|exact ih0 _ _ _ _|exact ih1 _ _ _ _ _ _|exact ih2 _ _ _ _ _|exact ih3 _ _ _ _ _ _ _ _|exact Z29.mono _ _ _|exact lo_|refine LeO.ite ?_ ?_|refine LeO.bind ?_ (fun _ => ?_)
theorem Z27.mono : ∀ a0 a1 a2 k, LeO (Z27.f k a0 a1 a2) (Z27.f (k + 1) a0 a1 a2) := by
 intro a0 a1 a2 k
 obtain ⟨ih0, ih1, ih2, ih3⟩ := Z27.mono_l k
 unfold Z27.f
 repeat' first|exact ih0 _ _ _ _|exact ih1 _ _ _ _ _ _|exact ih2 _ _ _ _ _|exact ih3 _ _ _ _ _ _ _ _|exact Z29.mono _ _ _|exact lo_|refine LeO.ite ?_ ?_|refine LeO.bind ?_ (fun _ => ?_)
def Z27.T14 : Bool × List (List Nat × List Nat) := (true, [([], []), ([0], [0]), ([], []), ([], []), ([2, 3], [2, 3]), ([4], [4]), ([1, 5], [1, 5]), ([6], [6]), ([], []), ([8], [8]), ([], []), ([], []), ([10, 11], [10, 11]), ([12], [12]), ([9, 13], [9, 13]), ([14], [14]), ([7, 15], [7, 15]), ([16], [16]), ([], [])])
def Z27.B14 : List Nat := [0, 1, 0, 0, 12, 28, 63, 127, 0, 256, 0, 0, 3072, 7168, 16128, 32512, 65535, 131071, 0]
theorem Z27.tab14 : rtab .any (opsOf Tryz.f86 14) = Z27.T14 := by kernel_rfl
theorem Z27.bits14 : waitsOk Z27.T14.2 Z27.B14 = true := by kernel_rfl
set_option maxHeartbeats 8000000 in
set_option maxRecDepth 100000 in
theorem Z27.calls (k : Nat) (A0_0 : Option Addr) (c0_0 : Nat) (l0_0 : List Int) (A0_1 : Option Addr) (c0_1 : Nat) (l0_1 : List Int) (a1 : Int) (r : List Int) (w : World) (hr0_0 : Kd.C (Kd.int .i64) w A0_0 l0_0.length l0_0) (hc0_0 : l0_0.length ≤ c0_0) (hr0_1 : Kd.C (Kd.int .i64) w A0_1 l0_1.length l0_1) (hc0_1 : l0_1.length ≤ c0_1) (h : Z27.f k l0_0 l0_1 a1 = some r) :
  Calls Tryz.prog 86 #[.agg #[.slice A0_0 l0_0.length c0_0, .slice A0_1 l0_1.length c0_1], .int .i64 a1] w fun e w' => ∃ v0_ : Value, e = .returned (v0_) ∧ Kd.R (Kd.int .i64) 3 w' w.heap.size (fun _ => True) v0_ r ∧ Below w.heap.size w w' := by
 have hu38 := Tryz.underlying38
 have HR0_0 := A_ hr0_0
 have HC0_0 := A_ hc0_0
 clear hr0_0 hc0_0
 have HR0_1 := A_ hr0_1
 have HC0_1 := A_ hc0_1
 clear hr0_1 hc0_1
 have HB := A_ (Below.refl w.heap.size w)
 have H := h
 unfold Z27.f at H
 clear h
 have HC3 := A_ H
 clear H
 go_enter Tryz.func86, Tryz.ntmps86
 go_upto_region 1 with (first | ((with_reducible refine gB_ (N := 2) rfl ?_); (try (refine gate_guard (by rfl) ?_; dsimp only)); refine bx_ 2 #[.slice A0_0 l0_0.length c0_0, .slice A0_1 l0_1.length c0_1] 38 ?_; intro gb493 hg w4 hbox hb; have BK493 := A_ hbox; have GW493 := gw_ w hg; have GE493 := GW493; replace HB := b1_ hb; clear hb hbox hg))
 (try simp only [Act.put, sA_, sB_, sC_])
 go_cut [24] (fun v24 wc => ∃ (kq : Nat) (x24_2 : Bool), v24 = .bool x24_2 ∧ Aside0 (Z27.j0 kq a1 x24_2 l0_0 l0_1 = some r) ∧ Aside0 (kq ≤ k) ∧ Aside0 (wc.heap[gb493]? = some (.cells #[(.slice A0_0 l0_0.length c0_0), (.slice A0_1 l0_1.length c0_1)] 38 (0, 0))) ∧ Aside0 (Below w.heap.size w wc))
 case first =>
  have H := HC3.out
  clear HC3
  obtain ⟨t494, A5, H⟩ := bi_ H
  by_cases c6 : t494 = true
  ·subst c6
   rw [if_pos rfl] at H
   by_cases c7 : a1 < 0
   ·rw [if_pos c7] at H
    have c7b0 := oC_ c7
    clear c7
    (first | rw [c7b0] | (simp only [i64_w, i32_w]; rw [c7b0]) | skip)
    have H' := A_ H
    clear H
    obtain ⟨hcz8_0, hcz8_1, hfz8_0, hfz8_1⟩ := c2_ BK493
    go_wp2_with (first | ((with_reducible refine gA_ (f := 88) rfl ?_); refine gL_ (some 12) Tryz.func88 #[.agg #[.slice A0_0 l0_0.length c0_0, .slice A0_1 l0_1.length c0_1]] rfl qa_ ?_; (with_reducible refine (Z29.calls k _ _ l0_0 _ _ l0_1 true _ (cb_ HR0_0) HC0_0.out (cb_ HR0_1) HC0_1.out A5.out).mono ?_); rintro e w9 ⟨rfl, hb⟩; refine ⟨_, rfl, ?_⟩; replace BK493 := bb_ BK493 hb; replace HB := b1_ hb; clear hb))
    go_meet
    case rel => exact ⟨_, (true), qc_, H', ⟨qd_⟩, ⟨(kk_ BK493)⟩, ⟨hB_⟩⟩
   ·rw [if_neg c7] at H
    have c7b0 := oD_ c7
    clear c7
    (first | rw [c7b0] | (simp only [i64_w, i32_w]; rw [c7b0]) | skip)
    have H' := A_ H
    clear H
    obtain ⟨hcz10_0, hcz10_1, hfz10_0, hfz10_1⟩ := c2_ BK493
    go_wp2_with (first | ((with_reducible refine gA_ (f := 88) rfl ?_); refine gL_ (some 12) Tryz.func88 #[.agg #[.slice A0_0 l0_0.length c0_0, .slice A0_1 l0_1.length c0_1]] rfl qa_ ?_; (with_reducible refine (Z29.calls k _ _ l0_0 _ _ l0_1 true _ (cb_ HR0_0) HC0_0.out (cb_ HR0_1) HC0_1.out A5.out).mono ?_); rintro e w11 ⟨rfl, hb⟩; refine ⟨_, rfl, ?_⟩; replace BK493 := bb_ BK493 hb; replace HB := b1_ hb; clear hb; obtain ⟨hcz12_0, hcz12_1, hfz12_0, hfz12_1⟩ := c2_ BK493))
    go_meet
    case rel => exact ⟨_, (decide (a1 ≥ (l0_0.length : Int))), qc_, H', ⟨qd_⟩, ⟨(kk_ BK493)⟩, ⟨hB_⟩⟩
  ·replace c6 := Bool.eq_false_iff.mpr c6
   subst c6
   have H1 : (Z27.j0 k a1 true l0_0 l0_1) = some r := by rw [if_neg (show ¬ (false = true) by decide)] at H; exact H
   clear H
   have H := H1
   clear H1
   have H' := A_ H
   clear H
   obtain ⟨hcz13_0, hcz13_1, hfz13_0, hfz13_1⟩ := c2_ BK493
   go_wp2_with (first | ((with_reducible refine gA_ (f := 88) rfl ?_); refine gL_ (some 12) Tryz.func88 #[.agg #[.slice A0_0 l0_0.length c0_0, .slice A0_1 l0_1.length c0_1]] rfl qa_ ?_; (with_reducible refine (Z29.calls k _ _ l0_0 _ _ l0_1 false _ (cb_ HR0_0) HC0_0.out (cb_ HR0_1) HC0_1.out A5.out).mono ?_); rintro e w14 ⟨rfl, hb⟩; refine ⟨_, rfl, ?_⟩; replace BK493 := bb_ BK493 hb; replace HB := b1_ hb; clear hb))
   go_meet
   case rel => exact ⟨_, (true), qc_, H', ⟨qd_⟩, ⟨(kk_ BK493)⟩, ⟨hB_⟩⟩
 case rest =>
  clear HC3
  obtain ⟨kq, x24_2, rfl, HA, HJ2, BK493, HB⟩ := hcut
  cases kq with
  | zero => exact absurd HA.out (by simp [Z27.j0])
  | succ kj2 =>
   have H := HA.out
   clear HA
   simp only [Z27.j0] at H
   by_cases c15 : x24_2 = true
   ·subst c15
    rw [if_pos rfl] at H
    obtain rfl := Option.some.inj H
    go_wp2
    go_ret
    exact ⟨_, qb_, by first | exact Kd.R_nil _ _ _ _ _ | exact Kd.N_nil _ _ _ _ _ | exact Kd.V_nil _ _ _ _ _ | exact Kd.Q_nil _ _ _ _ _ | exact Kd.S_nil _ _ _ _ _, hB_⟩
   ·replace c15 := Bool.eq_false_iff.mpr c15
    subst c15
    have H1 : (if 0 ≤ (l0_0.length : Int) then (if ((l0_0.length : Int) : Int).toNat ≤ 35184372088832 then ((some (List.replicate ((l0_0.length : Int) : Int).toNat 0 : List Int)).bind fun y495 => (Z27.l0 kj2 a1 y495 (y495.length : Int) 0 l0_0 l0_1)) else (none)) else (none)) = some r := by rw [if_neg (show ¬ (false = true) by decide)] at H; exact H
    clear H
    have H := H1
    clear H1
    have c16 := cp_ H
    replace H := ca_ H
    have c16b0 := eq_true c16
    have c16b1 := oC_ c16
    clear c16
    have c17 := cp_ H
    replace H := ca_ H
    have c17b0 := eq_true c17
    have c17b1 := oC_ c17
    clear c17
    obtain ⟨y495, hy495⟩ : ∃ y_ : List Int, y_ = (List.replicate ((l0_0.length : Int) : Int).toNat 0) := ⟨_, rfl⟩
    replace H : (Z27.l0 kj2 a1 y495 (y495.length : Int) 0 l0_0 l0_1) = some r := by first | (rw [hy495]; exact H) | exact H
    have Ny495 := A_ hy495
    clear hy495
    have H' := A_ H
    clear H
    obtain ⟨hcz18_0, hcz18_1, hfz18_0, hfz18_1⟩ := c2_ BK493
    go_wp2_with (first | ((with_reducible refine gB_ (N := 28) rfl ?_); (try (refine gate_guard (by rfl) ?_; dsimp only)); refine Kd.R_make (Kd.int .i64) _ 3 rfl (N := 28) rfl 27 _ _ rfl (l0_0.length : Int) rfl rfl Tryz.underlying27 (.int .i64 0) 8 info3 rfl (by decide) (by omega) 0 (ok := fun _ => True) (okp := fun _ => True) rfl (fun _ hk => hk) trivial (oB_ qe_) (Nat.le_trans (Nat.mul_le_mul_right _ (oB_ qe_ : (l0_0.length : Int).toNat ≤ 35184372088832)) (by omega)) (Below.refl _ _) (nA_ _) ?_; intro v496 w19 ho20 hb hg_ hnew_; clear hg_ hnew_; (first | rw [← Ny495.out] at ho20 | (simp only [Int.reduceToNat] at ho20; rw [← Ny495.out] at ho20)); have HO497 := rl_ w ho20; replace BK493 := bb_ BK493 hb; replace HB := b1_ hb; clear hb ho20; obtain ⟨Ao21, co21, eo21⟩ := Kd.R_slice HO497.out; subst eo21))
    go_loopg [31] kj2 (fun kq v31 w' => ∃ (x5_2 : List Int) (x31_2 : Int), v31 = .int .i64 x31_2 ∧ Aside0 (Z27.l0 kq a1 x5_2 (y495.length : Int) x31_2 l0_0 l0_1 = some r) ∧ Aside0 (kq ≤ kj2) ∧ Aside0 (Kd.R (Kd.int .i64) 3 w' w.heap.size (fun _ => True) (.slice Ao21 y495.length co21) x5_2) ∧ Aside0 (w'.heap[gb493]? = some (.cells #[(.slice A0_0 l0_0.length c0_0), (.slice A0_1 l0_1.length c0_1)] 38 (0, 0))) ∧ Aside0 (Below w.heap.size w w'))
    case atStart => exact ⟨(y495), (0), qc_, H', ⟨nA_ _⟩, ⟨(rr_ HO497)⟩, ⟨(kk_ BK493)⟩, ⟨hB_⟩⟩
    case round =>
     clear H'
     obtain ⟨x5_2, x31_2, rfl, HA, HK2, HO_5, BK493, HB⟩ := hrel
     have hl5_2 := (Kd.R_reads' HO_5.out).1
     rw [hl5_2] at HO_5
     (try simp only [hl5_2])
     (try simp only [hl5_2] at BK493)
     cases gk with
     | zero => exact absurd HA.out (by simp [Z27.l0])
     | succ k2 =>
      have H := HA.out
      clear HA
      simp only [Z27.l0] at H
      by_cases c22 : x31_2 < (y495.length : Int)
      ·rw [if_pos c22] at H
       have c22b0 := oC_ c22
       clear c22
       have c23 := cp_ H
       replace H := ca_ H
       have c23b0 := oC_ c23
       clear c23
       have c24 := cp_ H
       replace H := ca_ H
       have c24b0 := oC_ c24
       clear c24
       obtain ⟨y498, hy498⟩ : ∃ y_ : List Int, y_ = (x5_2.set (x31_2 : Int).toNat (-1)) := ⟨_, rfl⟩
       replace H : (Z27.l0 k2 a1 y498 (y495.length : Int) (wrap64 (x31_2 + 1)) l0_0 l0_1) = some r := by first | (rw [hy498]; exact H) | exact H
       have Ny498 := A_ hy498
       clear hy498
       have H' := A_ H
       clear H
       have p25 : 0 ≤ (x31_2 : Int) := oB_ qe_
       have q25 : (x31_2 : Int) < ((x5_2.length : Int) : Int) := oB_ qe_
       obtain ⟨go25, co25, eo25, gb25, gl25, cl25, HG25⟩ := Kd.R_form HO_5.out (by omega)
       (first | cases eo25 | (injection eo25 with ea_ en_ ec_; (first | subst ea_ | (injection ea_ with ea_; subst ea_)); subst ec_; clear en_))
       have GB25 := A_ gb25
       have GG25 := A_ HG25
       clear gb25 gl25 HG25
       obtain ⟨hx25_0, hf25_0⟩ := Kd.R_celln 0 HO_5.out (x31_2 : Int) p25 q25
       replace p25 := eq_true p25
       replace q25 := eq_true q25
       have HP26 := Kd.R_putg HO_5.out (x31_2 : Int) (-1)
       go_wp2_with (first | ((with_reducible refine gate_store (t := 3) (p := 36) rfl ?_); refine store_event (t := 3) (p := 36) (v := ?vo_w27) (w1 := (wr.setCell ⟨go25, (x31_2 : Int).toNat, none⟩ (.int .i64 (-1)))) ?hg ?ho ?hn ?hr ?_; (case ho => rfl); (case hg => rfl); (case hn => rfl); (case hr => first | (go_simp; done) | (go_simp; rfl)); intro w27 hw; have hg : wr.grownBy w27 (some go25) := (by rw [hw]; exact HP26.2); have hp_ : Kd.R (Kd.int .i64) 3 w27 w.heap.size (fun _ => True) (.slice (some ⟨go25, 0, none⟩) x5_2.length co21) y498 := (by rw [hw, Ny498.out]; exact HP26.1); clear HP26; replace BK493 := A_ (blk_grown (kk_ BK493) hg (Kd.R_ne HO_5.out BK493.out (by decide))); replace HO_5 := A_ (hp_); replace HB := A_ ((by rw [hw]; exact bD_ (HB.out) GB25.out : Below w.heap.size w w27)); clear hg hw hp_))
       (try simp only [← hl5_2])
       go_roundg k2
       case measure => have := HJ2.out; have := HK2.out; omega
       case rel => exact ⟨(y498), (wrap64 (x31_2 + 1)), qc_, H', ⟨by have := HJ2.out; have := HK2.out; omega⟩, ⟨by (try simp only [hl5_2]); (with_reducible repeat (first | apply rA_ | apply rB_ | apply rC_)); exact HO_5.out⟩, ⟨by (try simp only [hl5_2]); (with_reducible repeat (first | refine kA_ ?_ _ | refine kB_ ?_ | refine kC_ ?_ _)); exact BK493.out⟩, ⟨hB_⟩⟩
      ·rw [if_neg c22] at H
       have c22b0 := oD_ c22
       (try simp only [hl5_2] at c22b0)
       clear c22
       have c28 := cp_ H
       replace H := ca_ H
       have c28b0 := oC_ c28
       clear c28
       have c29 := cp_ H
       replace H := ca_ H
       have c29b0 := oC_ c29
       clear c29
       obtain ⟨y499, hy499⟩ : ∃ y_ : List Int, y_ = (x5_2.set (a1 : Int).toNat 0) := ⟨_, rfl⟩
       replace H : (Z27.l1 k2 y499 (([a1] : List Int)) 0 l0_0 l0_1) = some r := by first | (rw [hy499]; exact H) | exact H
       have Ny499 := A_ hy499
       clear hy499
       obtain ⟨y500, hy500⟩ : ∃ y_ : List Int, y_ = (([a1] : List Int)) := ⟨_, rfl⟩
       replace H : (Z27.l1 k2 y499 y500 0 l0_0 l0_1) = some r := by first | (rw [hy500]; exact H) | exact H
       have Ny500 := A_ hy500
       clear hy500
       have H' := A_ H
       clear H
       have p30 : 0 ≤ (a1 : Int) := oB_ qe_
       have q30 : (a1 : Int) < ((x5_2.length : Int) : Int) := oB_ qe_
       obtain ⟨go30, co30, eo30, gb30, gl30, cl30, HG30⟩ := Kd.R_form HO_5.out (by omega)
       (first | cases eo30 | (injection eo30 with ea_ en_ ec_; (first | subst ea_ | (injection ea_ with ea_; subst ea_)); subst ec_; clear en_))
       have GB30 := A_ gb30
       have GG30 := A_ HG30
       clear gb30 gl30 HG30
       obtain ⟨hx30_0, hf30_0⟩ := Kd.R_celln 0 HO_5.out (a1 : Int) p30 q30
       replace p30 := eq_true p30
       replace q30 := eq_true q30
       have HP31 := Kd.R_putg HO_5.out (a1 : Int) 0
       go_wp2_with (first | ((with_reducible refine gate_store (t := 3) (p := 40) rfl ?_); refine store_event (t := 3) (p := 40) (v := ?vo_w32) (w1 := (wr.setCell ⟨go30, (a1 : Int).toNat, none⟩ (.int .i64 0))) ?hg ?ho ?hn ?hr ?_; (case ho => rfl); (case hg => rfl); (case hn => rfl); (case hr => first | (go_simp; done) | (go_simp; rfl)); intro w32 hw; have hg : wr.grownBy w32 (some go30) := (by rw [hw]; exact HP31.2); have hp_ : Kd.R (Kd.int .i64) 3 w32 w.heap.size (fun _ => True) (.slice (some ⟨go30, 0, none⟩) x5_2.length co21) y499 := (by rw [hw, Ny499.out]; exact HP31.1); clear HP31; replace BK493 := A_ (blk_grown (kk_ BK493) hg (Kd.R_ne HO_5.out BK493.out (by decide))); replace HO_5 := A_ (hp_); replace HB := A_ ((by rw [hw]; exact bD_ (HB.out) GB30.out : Below w.heap.size w w32)); clear hg hw hp_) | ((with_reducible refine gB_ (N := 42) rfl ?_); (try (refine gate_guard (by rfl) ?_; dsimp only)); refine Kd.R_lit (Kd.int .i64) _ 3 ?hg (N := 42) ?hd (xs := ([a1] : List Int)) (inner := [.int .i64 a1]) (ok := fun _ => True) (okp := fun _ => True) ?hr ?hp (fun _ hk => hk) trivial (Below.refl _ _) (nA_ _) (by simp) ?_; (case hd => rfl); (case hg => rfl); (case hr => first | (go_simp; done) | (go_simp; rfl)); (case hp => exact (Reps.one (show Kd.M (Kd.int .i64) _ _ _ a1 [.int .i64 a1] from rfl) (Reps.none _ _))); intro v501 w33 ho34 hb hg_ hnew_; clear hg_ hnew_; (first | rw [← Ny500.out] at ho34 | (simp only [Int.reduceToNat] at ho34; rw [← Ny500.out] at ho34)); have HO502 := A_ (rE_ (Kd.R_new' ho34 (Kd.R_lt (rr_ HO_5))) (bF_ hB_)); replace HO_5 := A_ (Kd.R_elder' (rr_ HO_5) (Kd.R_base ho34) hb); replace BK493 := bb_ BK493 hb; replace HB := b1_ hb; clear hb ho34))
       go_loopg [7, 8] k2 (fun kq v7 v8 w' => ∃ (x5_3 : List Int) (x7_3 : List Int) (x8_3 : Int), v8 = .int .i64 x8_3 ∧ Aside0 (Z27.l1 kq x5_3 x7_3 x8_3 l0_0 l0_1 = some r) ∧ Aside0 (kq ≤ k2) ∧ Aside0 (Kd.R (Kd.int .i64) 3 w' w.heap.size (fun k_ => some k_ ≠ (v7 : Value).ownBlock) (.slice (some ⟨go30, 0, none⟩) x5_2.length co21) x5_3) ∧ Aside0 (Kd.R (Kd.int .i64) 3 w' w.heap.size (fun k_ => some k_ ≠ ((.slice (some ⟨go30, 0, none⟩) x5_2.length co21) : Value).ownBlock) v7 x7_3) ∧ Aside0 (w'.heap[gb493]? = some (.cells #[(.slice A0_0 l0_0.length c0_0), (.slice A0_1 l0_1.length c0_1)] 38 (0, 0))) ∧ Aside0 (Below w.heap.size w w'))
       case atStart => exact ⟨(y499), (y500), (0), qc_, H', ⟨nA_ _⟩, ⟨by (try simp only [hl5_2]); (with_reducible repeat (first | apply rA_ | apply rB_ | apply rC_)); exact Kd.R_mono HO_5.out (fun _ hk => hk.2)⟩, ⟨by (try simp only [hl5_2]); (with_reducible repeat (first | apply rA_ | apply rB_ | apply rC_)); exact Kd.R_mono HO502.out (fun _ hk => hk.2)⟩, ⟨by (try simp only [hl5_2]); (with_reducible repeat (first | refine kA_ ?_ _ | refine kB_ ?_ | refine kC_ ?_ _)); exact BK493.out⟩, ⟨hB_⟩⟩
       case round =>
        clear H'
        obtain ⟨x5_3, x7_3, x8_3, rfl, HA, HK3, HO_5, HO_7, BK493, HB⟩ := hrel
        have hl5_3 := (Kd.R_reads' HO_5.out).1
        rw [hl5_3] at HO_5
        (try simp only [hl5_3])
        (try simp only [hl5_3] at BK493)
        (try simp only [hl5_3] at HO_7)
        cases gk with
        | zero => exact absurd HA.out (by simp [Z27.l1])
        | succ k3 =>
         have H := HA.out
         clear HA
         simp only [Z27.l1] at H
         by_cases c35 : x8_3 < (x7_3.length : Int)
         ·rw [if_pos c35] at H
          have c35b0 := oC_ c35
          clear c35
          have c36 := cp_ H
          replace H := ca_ H
          have c36b0 := oC_ c36
          clear c36
          have c37 := cp_ H
          replace H := ca_ H
          have c37b0 := oC_ c37
          clear c37
          have c38 := cp_ H
          replace H := ca_ H
          have c38b0 := oC_ c38
          clear c38
          have c39 := cp_ H
          replace H := ca_ H
          have c39b0 := oC_ c39
          clear c39
          obtain ⟨y507, hy507⟩ : ∃ y_ : List Int, y_ = (([rd l0_0 (rd x7_3 x8_3), rd l0_1 (rd x7_3 x8_3)] : List Int)) := ⟨_, rfl⟩
          replace H : (Z27.l2 k3 x5_3 x7_3 x8_3 y507 (y507.length : Int) 0 l0_0 l0_1) = some r := by first | (rw [hy507]; exact H) | exact H
          have Ny507 := A_ hy507
          clear hy507
          have H' := A_ H
          clear H
          obtain ⟨Ao40, co40, eo40⟩ := Kd.R_slice HO_7.out
          subst eo40
          try go_wp2
          replace HO_5 := A_ (rC_ HO_5.out)
          replace HO_7 := A_ (rC_ HO_7.out)
          replace BK493 := A_ (kB_ BK493.out)
          replace HB := A_ (bC_ HB.out)
          have p503 : 0 ≤ (x8_3 : Int) := oB_ qe_
          have q503 : x8_3 < (x7_3.length : Int) := oB_ qe_
          obtain ⟨ad503, e503, hx503_0⟩ := Kd.at_int (Kd.R_reads' HO_7.out).2.2 x8_3 p503 q503
          cases e503
          replace p503 := eq_true p503
          replace q503 := eq_true q503
          have p504 : 0 ≤ ((rd x7_3 x8_3) : Int) := oB_ qe_
          have q504 : (rd x7_3 x8_3) < (l0_0.length : Int) := oB_ qe_
          obtain ⟨ad504, e504, hx504_0⟩ := Kd.at_int HR0_0.out (rd x7_3 x8_3) p504 q504
          have hw504_0 := hx504_0
          cases e504
          replace hx504_0 := (HB.out.cell (World.block_lt_of_cell? w _ hx504_0)).trans hx504_0
          replace p504 := eq_true p504
          replace q504 := eq_true q504
          have p505 : 0 ≤ (x8_3 : Int) := oB_ qe_
          have q505 : x8_3 < (x7_3.length : Int) := oB_ qe_
          obtain ⟨ad505, e505, hx505_0⟩ := Kd.at_int (Kd.R_reads' HO_7.out).2.2 x8_3 p505 q505
          obtain rfl : ad503 = ad505 := (by injection e505)
          replace p505 := eq_true p505
          replace q505 := eq_true q505
          have p506 : 0 ≤ ((rd x7_3 x8_3) : Int) := oB_ qe_
          have q506 : (rd x7_3 x8_3) < (l0_1.length : Int) := oB_ qe_
          obtain ⟨ad506, e506, hx506_0⟩ := Kd.at_int HR0_1.out (rd x7_3 x8_3) p506 q506
          have hw506_0 := hx506_0
          cases e506
          replace hx506_0 := (HB.out.cell (World.block_lt_of_cell? w _ hx506_0)).trans hx506_0
          replace p506 := eq_true p506
          replace q506 := eq_true q506
          refine start_ (n := 19) (S := fun w' => w'.cell? ⟨gb493, 0, none⟩ = some (.slice (some ad504) l0_0.length c0_0) ∧ w'.cell? ⟨gb493, 1, none⟩ = some (.slice (some ad506) l0_1.length c0_1) ∧ w'.cell? (ad503.add (x8_3).toNat) = some (.int .i64 (rd x7_3 x8_3)) ∧ w'.cell? (ad504.add ((rd x7_3 x8_3)).toNat) = some (.int .i64 (rd l0_0 (rd x7_3 x8_3))) ∧ w'.cell? (ad503.add (x8_3).toNat) = some (.int .i64 (rd x7_3 x8_3)) ∧ w'.cell? (ad506.add ((rd x7_3 x8_3)).toNat) = some (.int .i64 (rd l0_1 (rd x7_3 x8_3)))) (ds := []) (bl_ 19 0) (by kernel_rfl) rfl (by kernel_rfl) ⟨cz0_ BK493, cz1_ BK493, hx503_0, ((HB.out.cell (World.block_lt_of_cell? w _ hw504_0)).trans hw504_0), hx505_0, ((HB.out.cell (World.block_lt_of_cell? w _ hw506_0)).trans hw506_0)⟩ (fun hHeld => ?_); refine with_tabW Z27.tab14 Z27.bits14 (fun HT_ HW_ => ?_)
          generalize wr.drew = w41 at HO_5 HO_7 BK493 HB hx503_0 hx504_0 hx505_0 hx506_0 hHeld ⊢
          refine pu_ 0 (some 49) (bl_ 19 1) HT_ ?_
          refine pu_ 2 (some 51) (bl_ 19 5) HT_ ?_
          refine pu_ 3 (some 52) (bl_ 19 13) HT_ ?_
          refine pu_ 4 (some 53) (bl_ 19 29) HT_ ?_
          refine pu_ 8 (some 57) (bl_ 19 285) HT_ ?_
          refine pu_ 10 (some 59) (bl_ 19 1309) HT_ ?_
          refine pu_ 11 (some 60) (bl_ 19 3357) HT_ ?_
          refine pu_ 12 (some 61) (bl_ 19 7453) HT_ ?_
          refine pu_ 18 (some 67) (bl_ 19 269597) HT_ ?_
          refine ta_ 1 (some 50) (bl_ 19 269599) HT_ HW_ hHeld ?_
          refine ta_ 5 (some 54) (bl_ 19 269631) HT_ HW_ hHeld ?_
          refine pu_ 6 (some 55) (bl_ 19 269695) HT_ ?_
          refine ta_ 7 (some 56) (bl_ 19 269823) HT_ HW_ hHeld ?_
          refine ta_ 9 (some 58) (bl_ 19 270335) HT_ HW_ hHeld ?_
          refine ta_ 13 (some 62) (bl_ 19 278527) HT_ HW_ hHeld ?_
          refine pu_ 14 (some 63) (bl_ 19 294911) HT_ ?_
          refine ta_ 15 (some 64) (bl_ 19 327679) HT_ HW_ hHeld ?_
          refine on_ 16 (some 65) (bl_ 19 393215) HT_ (fun K hK => ?_)
          refine Kd.R_lit_step (Kd.int .i64) _ 3 ?hg (N := 65) ?hd (xs := ([rd l0_0 (rd x7_3 x8_3), rd l0_1 (rd x7_3 x8_3)] : List Int)) (inner := [.int .i64 (rd l0_0 (rd x7_3 x8_3)), .int .i64 (rd l0_1 (rd x7_3 x8_3))]) (ok := fun _ => True) (okp := fun _ => True) ?hr ?hp (fun _ hk => hk) trivial (Below.refl _ _) (nA_ _) (by simp) ?_; (case hd => rfl); (case hg => rfl); (case hr => first | (go_simp; done) | (go_simp; rfl)); (case hp => exact (Reps.one (show Kd.M (Kd.int .i64) _ _ _ (rd l0_0 (rd x7_3 x8_3)) [.int .i64 (rd l0_0 (rd x7_3 x8_3))] from rfl) (Reps.one (show Kd.M (Kd.int .i64) _ _ _ (rd l0_1 (rd x7_3 x8_3)) [.int .i64 (rd l0_1 (rd x7_3 x8_3))] from rfl) (Reps.none _ _))))
          intro v508 w42 ho43 hb hg_ hnew_
          have HS2_ := (hb.cell (World.block_lt_of_cell? _ _ (hHeld.2.2.1))).trans (hHeld.2.2.1)
          have HS4_ := (hb.cell (World.block_lt_of_cell? _ _ (hHeld.2.2.2.2.1))).trans (hHeld.2.2.2.2.1)
          clear hg_ hnew_
          (first | rw [← Ny507.out] at ho43 | (simp only [Int.reduceToNat] at ho43; rw [← Ny507.out] at ho43))
          have HO509 := A_ (rE_ (Kd.R_new' (Kd.R_new' ho43 (Kd.R_lt (rr_ HO_5))) (Kd.R_lt (rr_ HO_7))) (bF_ hB_))
          replace HO_5 := A_ (Kd.R_elder' (rr_ HO_5) (Kd.R_base ho43) hb)
          replace HO_7 := A_ (Kd.R_elder' (rr_ HO_7) (Kd.R_base ho43) hb)
          replace BK493 := bb_ BK493 hb
          replace HB := b1_ hb
          clear hb ho43
          obtain ⟨Ao44, co44, eo44⟩ := Kd.R_slice HO509.out
          (first | subst eo44 | (injection eo44 with f1_ f2_ f3_; have f4_ := f1_.symm; have f5_ := f3_.symm; clear f1_ f2_ f3_; subst f4_; subst f5_))
          refine hK.out _ _ ⟨cz0_ BK493, cz1_ BK493, HS2_, ((HB.out.cell (World.block_lt_of_cell? w _ hw504_0)).trans hw504_0), HS4_, ((HB.out.cell (World.block_lt_of_cell? w _ hw506_0)).trans hw506_0)⟩ (fun hHeld => ?_)
          clear hK K
          refine no_ (some 65) ?_
          refine pu_ 17 (some 66) (bl_ 19 524287) HT_ ?_
          refine done_ (done_of HT_.out (by kernel_rfl)) ?_
          try go_wp2
          go_loopg [7, 67] k3 (fun kq v7 v67 w' => ∃ (x5_4 : List Int) (x7_4 : List Int) (x67_4 : Int), v67 = .int .i64 x67_4 ∧ Aside0 (Z27.l2 kq x5_4 x7_4 x8_3 y507 (y507.length : Int) x67_4 l0_0 l0_1 = some r) ∧ Aside0 (kq ≤ k3) ∧ Aside0 (Kd.R (Kd.int .i64) 3 w' w.heap.size (fun k_ => some k_ ≠ (v7 : Value).ownBlock ∧ some k_ ≠ ((.slice Ao44 y507.length co44) : Value).ownBlock) (.slice (some ⟨go30, 0, none⟩) x5_3.length co21) x5_4) ∧ Aside0 (Kd.R (Kd.int .i64) 3 w' w.heap.size (fun k_ => some k_ ≠ ((.slice (some ⟨go30, 0, none⟩) x5_3.length co21) : Value).ownBlock ∧ some k_ ≠ ((.slice Ao44 y507.length co44) : Value).ownBlock) v7 x7_4) ∧ Aside0 (Kd.R (Kd.int .i64) 3 w' w.heap.size (fun k_ => some k_ ≠ ((.slice (some ⟨go30, 0, none⟩) x5_3.length co21) : Value).ownBlock ∧ some k_ ≠ (v7 : Value).ownBlock) (.slice Ao44 y507.length co44) y507) ∧ Aside0 (w'.heap[gb493]? = some (.cells #[(.slice (some ad504) l0_0.length c0_0), (.slice (some ad506) l0_1.length c0_1)] 38 (0, 0))) ∧ Aside0 (Below w.heap.size w w'))
          case atStart => exact ⟨(x5_3), (x7_3), (0), qc_, H', ⟨nA_ _⟩, ⟨by (try simp only [hl5_2]); (try simp only [hl5_3]); (with_reducible repeat (first | apply rA_ | apply rB_ | apply rC_)); exact HO_5.out⟩, ⟨by (try simp only [hl5_2]); (try simp only [hl5_3]); (with_reducible repeat (first | apply rA_ | apply rB_ | apply rC_)); exact HO_7.out⟩, ⟨by (try simp only [hl5_2]); (try simp only [hl5_3]); (with_reducible repeat (first | apply rA_ | apply rB_ | apply rC_)); exact Kd.R_mono HO509.out (fun _ hk => ⟨hk.1.2, hk.2⟩)⟩, ⟨by (try simp only [hl5_2]); (try simp only [hl5_3]); (with_reducible repeat (first | refine kA_ ?_ _ | refine kB_ ?_ | refine kC_ ?_ _)); exact BK493.out⟩, ⟨hB_⟩⟩
          case round =>
           clear H'
           obtain ⟨x5_4, x7_4, x67_4, rfl, HA, HK4, HO_5, HO_7, HO_65, BK493, HB⟩ := hrel
           have hl5_4 := (Kd.R_reads' HO_5.out).1
           rw [hl5_4] at HO_5
           (try simp only [hl5_4])
           (try simp only [hl5_4] at BK493)
           (try simp only [hl5_4] at HO_7)
           (try simp only [hl5_4] at HO_65)
           cases gk with
           | zero => exact absurd HA.out (by simp [Z27.l2])
           | succ k4 =>
            have H := HA.out
            clear HA
            simp only [Z27.l2] at H
            by_cases c45 : x67_4 < (y507.length : Int)
            ·rw [if_pos c45] at H
             have c45b0 := oC_ c45
             clear c45
             have c46 := cp_ H
             replace H := ca_ H
             have c46b0 := oC_ c46
             clear c46
             have c47 := cp_ H
             replace H := ca_ H
             have c47b0 := oC_ c47
             clear c47
             have c48 := cp_ H
             replace H := ca_ H
             have c48b0 := oC_ c48
             clear c48
             have c49 := cp_ H
             replace H := ca_ H
             have c49b0 := oC_ c49
             clear c49
             by_cases c50 : (rd x5_4 (rd y507 x67_4)) < 0
             ·rw [if_pos c50] at H
              have c50b0 := oC_ c50
              clear c50
              obtain ⟨y512, hy512⟩ : ∃ y_ : List Int, y_ = (x5_4.set ((rd y507 x67_4) : Int).toNat (x7_4.length : Int)) := ⟨_, rfl⟩
              replace H : (if x7_4.length < 17592186044416 then (Z27.l2 k4 y512 (x7_4 ++ [rd y507 x67_4]) x8_3 y507 (y507.length : Int) (wrap64 (x67_4 + 1)) l0_0 l0_1) else (none)) = some r := by first | (rw [hy512]; exact H) | exact H
              have Ny512 := A_ hy512
              clear hy512
              have c52 := cp_ H
              replace H := ca_ H
              have LMc52 := A_ c52
              clear c52
              obtain ⟨y513, hy513⟩ : ∃ y_ : List Int, y_ = (x7_4 ++ [rd y507 x67_4]) := ⟨_, rfl⟩
              replace H : (Z27.l2 k4 y512 y513 x8_3 y507 (y507.length : Int) (wrap64 (x67_4 + 1)) l0_0 l0_1) = some r := by first | (rw [hy513]; exact H) | exact H
              have Ny513 := A_ hy513
              clear hy513
              have H' := A_ H
              clear H
              have p510 : 0 ≤ (x67_4 : Int) := oB_ qe_
              have q510 : x67_4 < (y507.length : Int) := oB_ qe_
              obtain ⟨ad510, e510, hx510_0⟩ := Kd.at_int (Kd.R_reads' HO_65.out).2.2 x67_4 p510 q510
              cases e510
              replace p510 := eq_true p510
              replace q510 := eq_true q510
              have p511 : 0 ≤ ((rd y507 x67_4) : Int) := oB_ qe_
              have q511 : (rd y507 x67_4) < (x5_4.length : Int) := oB_ qe_
              obtain ⟨ad511, e511, hx511_0⟩ := Kd.at_int (Kd.R_reads' HO_5.out).2.2 (rd y507 x67_4) p511 q511
              obtain rfl : (⟨go30, 0, none⟩ : Addr) = ad511 := (by injection e511)
              (first | simp only [add_plain] at hx511_0 | simp only [add_at] at hx511_0 | simp only [Addr.add, Nat.zero_add] at hx511_0 | skip)
              replace p511 := eq_true p511
              replace q511 := eq_true q511
              obtain ⟨Ao53, co53, eo53⟩ := Kd.R_slice HO_7.out
              subst eo53
              have p51 : 0 ≤ ((rd y507 x67_4) : Int) := oB_ qe_
              have q51 : ((rd y507 x67_4) : Int) < ((x5_4.length : Int) : Int) := oB_ qe_
              obtain ⟨hx51_0, hf51_0⟩ := Kd.R_celln 0 HO_5.out ((rd y507 x67_4) : Int) p51 q51
              replace p51 := eq_true p51
              replace q51 := eq_true q51
              have HP54 := Kd.R_putg HO_5.out ((rd y507 x67_4) : Int) (x7_4.length : Int)
              go_wp2_with (first | ((with_reducible refine gate_store (t := 3) (p := 80) rfl ?_); refine store_event (t := 3) (p := 80) (v := ?vo_w55) (w1 := (wr.setCell ⟨go30, ((rd y507 x67_4) : Int).toNat, none⟩ (.int .i64 (x7_4.length : Int)))) ?hg ?ho ?hn ?hr ?_; (case ho => rfl); (case hg => rfl); (case hn => rfl); (case hr => first | (go_simp; done) | (go_simp; rfl)); intro w55 hw; have hg : wr.grownBy w55 (some go30) := (by rw [hw]; exact HP54.2); have hp_ : Kd.R (Kd.int .i64) 3 w55 w.heap.size (fun k_ => some k_ ≠ (.slice Ao53 x7_4.length co53 : Value).ownBlock ∧ some k_ ≠ (.slice (some ad510) y507.length co44 : Value).ownBlock) (.slice (some ⟨go30, 0, none⟩) x5_4.length co21) y512 := (by rw [hw, Ny512.out]; exact HP54.1); clear HP54; replace HO_7 := A_ (Kd.R_after (v := (.slice (some ⟨go30, 0, none⟩) x5_4.length co21)) (v1 := (.slice (some ⟨go30, 0, none⟩) x5_4.length co21)) (ok := (fun k_ => some k_ ≠ (.slice (some ad510) y507.length co44 : Value).ownBlock)) (rw_ (Kd.R_mono HO_7.out (fun _ hk => ⟨hk.2, hk.1⟩))) hg (.inl rfl)); replace HO_65 := A_ (Kd.R_after (v := (.slice (some ⟨go30, 0, none⟩) x5_4.length co21)) (v1 := (.slice (some ⟨go30, 0, none⟩) x5_4.length co21)) (ok := (fun k_ => some k_ ≠ (.slice Ao53 x7_4.length co53 : Value).ownBlock)) (rw_ (Kd.R_mono HO_65.out (fun _ hk => ⟨hk.2, hk.1⟩))) hg (.inl rfl)); replace BK493 := A_ (blk_grown (kk_ BK493) hg (Kd.R_ne HO_5.out BK493.out (by decide))); replace HO_5 := A_ (hp_); replace HB := A_ ((by rw [hw]; exact bD_ (HB.out) GB30.out : Below w.heap.size w w55)); clear hg hw hp_) | ((with_reducible refine gate_builtin (b := .append) (xs := #[.tmp 81, .tmp 83]) rfl ?_); (try (refine gate_guard (by rfl) ?_; dsimp only)); at_builtin; refine Kd.R_append (Kd.int .i64) (w0 := w) w.heap.size rfl (.tmp 81) (.tmp 83) 27 3 (.int .i64 0) 8 rfl Tryz.underlying27 info3 rfl (by decide) (by omega) (.slice Ao53 x7_4.length co53) x7_4 (rd y507 x67_4) [.int .i64 (rd y507 x67_4)] (fun k_ => some k_ ≠ (.slice (some ⟨go30, 0, none⟩) x5_4.length co21 : Value).ownBlock ∧ some k_ ≠ (.slice (some ad510) y507.length co44 : Value).ownBlock) (fun _ => False) rfl rfl ?aP (fun _ hk => hk.elim) ?aF ?aO ?aB ?aS ?aL ?_; (case aP => exact rfl); (case aB => exact hB_); (case aF => exact (fun k_ hk => ⟨Kd.fresh' (Kd.R_lt (rr_ HO_5)) k_ hk, Kd.fresh' (Kd.R_lt (rr_ HO_65)) k_ hk⟩)); (case aO => exact (rw_ (Kd.R_mono HO_7.out (fun _ hk => ⟨hk.2, hk.1⟩)))); (case aS => exact (bF_ hB_)); (case aL => have := LMc52.out; omega); intro v514 w56 ho hb hg hat; rw [← Ny513.out] at ho; replace HO_5 := A_ (Kd.R_after (ok := (fun k_ => some k_ ≠ (.slice (some ad510) y507.length co44 : Value).ownBlock)) (rw_ (Kd.R_mono HO_5.out (fun _ hk => ⟨hk.2, hk.1⟩))) hg hat); replace HO_65 := A_ (Kd.R_after (ok := (fun k_ => some k_ ≠ (.slice (some ⟨go30, 0, none⟩) x5_4.length co21 : Value).ownBlock)) (rw_ (Kd.R_mono HO_65.out (fun _ hk => ⟨hk.2, hk.1⟩))) hg hat); replace BK493 := A_ (blk_grown (kk_ BK493) hg (Kd.R_ne HO_7.out BK493.out (by decide))); replace HB := A_ hb; have HO515 := A_ ho; clear HO_7; clear ho hb hg hat))
              (try simp only [← hl5_4])
              go_roundg k4
              case measure => have := HJ2.out; have := HK2.out; have := HK3.out; have := HK4.out; omega
              case rel => exact ⟨(y512), (y513), (wrap64 (x67_4 + 1)), qc_, H', ⟨by have := HJ2.out; have := HK2.out; have := HK3.out; have := HK4.out; omega⟩, ⟨by (try simp only [hl5_2]); (try simp only [hl5_3]); (try simp only [hl5_4]); (with_reducible repeat (first | apply rA_ | apply rB_ | apply rC_)); exact Kd.R_mono HO_5.out (fun _ hk => ⟨hk.2, hk.1⟩)⟩, ⟨by (try simp only [hl5_2]); (try simp only [hl5_3]); (try simp only [hl5_4]); (with_reducible repeat (first | apply rA_ | apply rB_ | apply rC_)); exact HO515.out⟩, ⟨by (try simp only [hl5_2]); (try simp only [hl5_3]); (try simp only [hl5_4]); (with_reducible repeat (first | apply rA_ | apply rB_ | apply rC_)); exact HO_65.out⟩, ⟨by (try simp only [hl5_2]); (try simp only [hl5_3]); (try simp only [hl5_4]); (with_reducible repeat (first | refine kA_ ?_ _ | refine kB_ ?_ | refine kC_ ?_ _)); exact BK493.out⟩, ⟨hB_⟩⟩
             ·rw [if_neg c50] at H
              have c50b0 := oD_ c50
              clear c50
              have H' := A_ H
              clear H
              have p510 : 0 ≤ (x67_4 : Int) := oB_ qe_
              have q510 : x67_4 < (y507.length : Int) := oB_ qe_
              obtain ⟨ad510, e510, hx510_0⟩ := Kd.at_int (Kd.R_reads' HO_65.out).2.2 x67_4 p510 q510
              cases e510
              replace p510 := eq_true p510
              replace q510 := eq_true q510
              have p511 : 0 ≤ ((rd y507 x67_4) : Int) := oB_ qe_
              have q511 : (rd y507 x67_4) < (x5_4.length : Int) := oB_ qe_
              obtain ⟨ad511, e511, hx511_0⟩ := Kd.at_int (Kd.R_reads' HO_5.out).2.2 (rd y507 x67_4) p511 q511
              obtain rfl : (⟨go30, 0, none⟩ : Addr) = ad511 := (by injection e511)
              (first | simp only [add_plain] at hx511_0 | simp only [add_at] at hx511_0 | simp only [Addr.add, Nat.zero_add] at hx511_0 | skip)
              replace p511 := eq_true p511
              replace q511 := eq_true q511
              go_wp2
              (try simp only [← hl5_4])
              go_roundg k4
              case measure => have := HJ2.out; have := HK2.out; have := HK3.out; have := HK4.out; omega
              case rel => exact ⟨(x5_4), (x7_4), (wrap64 (x67_4 + 1)), qc_, H', ⟨by have := HJ2.out; have := HK2.out; have := HK3.out; have := HK4.out; omega⟩, ⟨by (try simp only [hl5_2]); (try simp only [hl5_3]); (try simp only [hl5_4]); (with_reducible repeat (first | apply rA_ | apply rB_ | apply rC_)); exact HO_5.out⟩, ⟨by (try simp only [hl5_2]); (try simp only [hl5_3]); (try simp only [hl5_4]); (with_reducible repeat (first | apply rA_ | apply rB_ | apply rC_)); exact HO_7.out⟩, ⟨by (try simp only [hl5_2]); (try simp only [hl5_3]); (try simp only [hl5_4]); (with_reducible repeat (first | apply rA_ | apply rB_ | apply rC_)); exact HO_65.out⟩, ⟨by (try simp only [hl5_2]); (try simp only [hl5_3]); (try simp only [hl5_4]); (with_reducible repeat (first | refine kA_ ?_ _ | refine kB_ ?_ | refine kC_ ?_ _)); exact BK493.out⟩, ⟨hB_⟩⟩
            ·rw [if_neg c45] at H
             have c45b0 := oD_ c45
             (try simp only [hl5_4] at c45b0)
             clear c45
             have H' := A_ H
             clear H
             go_wp2
             (try simp only [← hl5_3, ← hl5_4])
             go_roundg k4
             case measure => have := HJ2.out; have := HK2.out; have := HK3.out; have := HK4.out; omega
             case rel => exact ⟨(x5_4), (x7_4), (wrap64 (x8_3 + 1)), qc_, H', ⟨by have := HJ2.out; have := HK2.out; have := HK3.out; have := HK4.out; omega⟩, ⟨by (try simp only [hl5_2]); (try simp only [hl5_3]); (try simp only [hl5_4]); (with_reducible repeat (first | apply rA_ | apply rB_ | apply rC_)); exact Kd.R_mono HO_5.out (fun _ hk => hk.1)⟩, ⟨by (try simp only [hl5_2]); (try simp only [hl5_3]); (try simp only [hl5_4]); (with_reducible repeat (first | apply rA_ | apply rB_ | apply rC_)); exact Kd.R_mono HO_7.out (fun _ hk => hk.1)⟩, ⟨by (try simp only [hl5_2]); (try simp only [hl5_3]); (try simp only [hl5_4]); (with_reducible repeat (first | refine kA_ ?_ _ | refine kB_ ?_ | refine kC_ ?_ _)); exact BK493.out⟩, ⟨hB_⟩⟩
         ·rw [if_neg c35] at H
          have c35b0 := oD_ c35
          clear c35
          obtain rfl := Option.some.inj H
          obtain ⟨Ao57, co57, eo57⟩ := Kd.R_slice HO_7.out
          subst eo57
          go_wp2
          go_ret
          exact ⟨_, qb_, (rw_ (Kd.R_mono HO_5.out (fun _ hk => trivial))), hB_⟩
end Go.Proofs.YtoijcallajegfaaGreat.A
end
section
namespace Go.Proofs.YtoijcallajegfaaGreat.A
open Go.RowKit Go.Proofs.YtoijcallajegfaaGreatW.PrintWords Go.Proofs.YtoijcallajegfaaGreatW.PrintLast Go.Proofs.YtoijcallajegfaaGreatW.PrintMore
attribute [local go_sem] max2_int min2_int max_two min_two max_three min_three max_four min_four
set_option linter.unusedVariables false
set_option linter.unusedSimpArgs false
def Z30.l0 : Nat → List (S38) → Int → List Int → List Int → Option ((List (S38)))
 | 0, _, _, _, _ => none
 | k + 1, x3, x4, x517000, x517001 => (Z8.f k x517000 x517001).bind fun t520 => (if x4 < t520 then ((Z27.f k x517000 x517001 x4).bind fun t521 => ((Z7.f k x517000 x517001 t521).bind fun bt524 => (if x3.length < 2932031007402 then (Z30.l0 k (x3 ++ [(⟨bt524.1, bt524.2.1⟩ : S38)]) (wrap64 (x4 + 1)) x517000 x517001) else (none)))) else (some x3))
def Z30.f (k : Nat) (l0_0 : List Int) (l0_1 : List Int) : Option ((List (S38))) := Z30.l0 k (([] : List (S38))) 0 l0_0 l0_1
theorem Z30.mono_l : ∀ k, (∀ y0 y1 y2 y3, LeO (Z30.l0 k y0 y1 y2 y3) (Z30.l0 (k + 1) y0 y1 y2 y3))
 | 0 => fun _ _ _ _ r h => by simp [Z30.l0] at h
 | k + 1 => by
  have ih0 := Z30.mono_l k
  ·intro y0 y1 y2 y3
   unfold Z30.l0
   repeat' first|exact ih0 _ _ _ _|exact Z8.mono _ _ _|exact Z27.mono _ _ _ _|exact Z7.mono _ _ _ _|exact lo_|refine LeO.ite ?_ ?_|refine LeO.bind ?_ (fun _ => ?_)
theorem Z30.mono : ∀ a0 a1 k, LeO (Z30.f k a0 a1) (Z30.f (k + 1) a0 a1) := by
 intro a0 a1 k
 have ih0 := Z30.mono_l k
 unfold Z30.f
 repeat' first|exact ih0 _ _ _ _|exact Z8.mono _ _ _|exact Z27.mono _ _ _ _|exact Z7.mono _ _ _ _|exact lo_|refine LeO.ite ?_ ?_|refine LeO.bind ?_ (fun _ => ?_)
def Z30.T5 : Bool × List (List Nat × List Nat) := (true, [([], []), ([], []), ([], []), ([1, 2], [1, 2]), ([0, 3, 3], [0, 3]), ([4], [4]), ([5], [5]), ([5], [5]), ([], []), ([8, 6, 4, 0, 1, 2, 3, 4, 5, 6, 8], [6, 8]), ([7, 9, 0, 1, 2, 3, 4, 5, 6, 7, 8, 9], [7])])
def Z30.B5 : List Nat := [0, 0, 0, 6, 15, 31, 63, 63, 0, 383, 1023]
theorem Z30.tab5 : rtab .any (opsOf Tryz.f55 5) = Z30.T5 := by kernel_rfl
theorem Z30.bits5 : waitsOk Z30.T5.2 Z30.B5 = true := by kernel_rfl
set_option maxHeartbeats 8000000 in
set_option maxRecDepth 100000 in
theorem Z30.calls (k : Nat) (A0_0 : Option Addr) (c0_0 : Nat) (l0_0 : List Int) (A0_1 : Option Addr) (c0_1 : Nat) (l0_1 : List Int) (r : List (S38)) (w : World) (hr0_0 : Kd.C (Kd.int .i64) w A0_0 l0_0.length l0_0) (hc0_0 : l0_0.length ≤ c0_0) (hr0_1 : Kd.C (Kd.int .i64) w A0_1 l0_1.length l0_1) (hc0_1 : l0_1.length ≤ c0_1) (h : Z30.f k l0_0 l0_1 = some r) :
  Calls Tryz.prog 55 #[.agg #[.slice A0_0 l0_0.length c0_0, .slice A0_1 l0_1.length c0_1]] w fun e w' => ∃ v0_ : Value, e = .returned (v0_) ∧ Kd.S k38 38 w' w.heap.size (fun _ => True) v0_ r ∧ Below w.heap.size w w' := by
 have hu38 := Tryz.underlying38
 have HR0_0 := A_ hr0_0
 have HC0_0 := A_ hc0_0
 clear hr0_0 hc0_0
 have HR0_1 := A_ hr0_1
 have HC0_1 := A_ hc0_1
 clear hr0_1 hc0_1
 have HB := A_ (Below.refl w.heap.size w)
 have H := h
 unfold Z30.f at H
 clear h
 obtain ⟨y517, hy517⟩ : ∃ y_ : List (S38), y_ = (([] : List (S38))) := ⟨_, rfl⟩
 replace H : (Z30.l0 k y517 0 l0_0 l0_1) = some r := by first | (rw [hy517]; exact H) | exact H
 have Ny517 := A_ hy517
 clear hy517
 have H' := A_ H
 clear H
 go_enter Tryz.func55, Tryz.ntmps55
 go_wp2_with (first | ((with_reducible refine gB_ (N := 1) rfl ?_); refine bx_ 1 #[.slice A0_0 l0_0.length c0_0, .slice A0_1 l0_1.length c0_1] 38 ?_; intro gb516 hg w2 hbox hb; have BK516 := A_ hbox; have GW516 := gw_ w hg; have GE516 := GW516; replace HB := b1_ hb; clear hb hbox hg) | ((with_reducible refine gB_ (N := 7) rfl ?_); refine Kd.S_lit k38 _ 38 ?hg (N := 7) ?hd (xs := ([] : List (S38))) (inner := []) (ok := fun _ => True) (okp := fun _ => True) ?hr ?hp (fun _ hk => hk) trivial (Below.refl _ _) (nA_ _) (by simp) ?_; (case hd => rfl); (case hg => rfl); (case hr => first | (go_simp; done) | (go_simp; rfl)); (case hp => exact (Reps.none _ _)); intro v518 w3 ho4 hb hg_ hnew_; clear hg_ hnew_; (first | rw [← Ny517.out] at ho4 | (simp only [Int.reduceToNat] at ho4; rw [← Ny517.out] at ho4)); have HO519 := A_ (Kd.S_lower (Kd.S_newB ho4 (kk_ BK516)) (bF_ hB_)); replace BK516 := bb_ BK516 hb; replace HB := b1_ hb; clear hb ho4))
 go_loopg [3, 4] k (fun kq v3 v4 w' => ∃ (x3_1 : List (S38)) (x4_1 : Int), v4 = .int .i64 x4_1 ∧ Aside0 (Z30.l0 kq x3_1 x4_1 l0_0 l0_1 = some r) ∧ Aside0 (kq ≤ k) ∧ Aside0 (Kd.S k38 38 w' w.heap.size (fun k_ => k_ ≠ gb516) v3 x3_1) ∧ Aside0 (w'.heap[gb516]? = some (.cells #[(.slice A0_0 l0_0.length c0_0), (.slice A0_1 l0_1.length c0_1)] 38 (0, 0))) ∧ Aside0 (Below w.heap.size w w'))
 case atStart => exact ⟨(y517), (0), qc_, H', ⟨nA_ _⟩, ⟨(sw_ (Kd.S_mono HO519.out (fun _ hk => hk.2)))⟩, ⟨(kk_ BK516)⟩, ⟨hB_⟩⟩
 case round =>
  clear H'
  obtain ⟨x3_1, x4_1, rfl, HA, HK1, HO_3, BK516, HB⟩ := hrel
  cases gk with
  | zero => exact absurd HA.out (by simp [Z30.l0])
  | succ k1 =>
   have H := HA.out
   clear HA
   simp only [Z30.l0] at H
   obtain ⟨t520, A5, H⟩ := bi_ H
   by_cases c6 : x4_1 < t520
   ·rw [if_pos c6] at H
    have c6b0 := oC_ c6
    clear c6
    obtain ⟨t521, A7, H⟩ := bi_ H
    obtain ⟨⟨t524, t527, t530⟩, A8, H⟩ := bi_ H
    try dsimp only at H
    have c9 := cp_ H
    replace H := ca_ H
    have LMc9 := A_ c9
    clear c9
    obtain ⟨y532, hy532⟩ : ∃ y_ : List (S38), y_ = (x3_1 ++ [(⟨t524, t527⟩ : S38)]) := ⟨_, rfl⟩
    replace H : (Z30.l0 k1 y532 (wrap64 (x4_1 + 1)) l0_0 l0_1) = some r := by first | (rw [hy532]; exact H) | exact H
    have Ny532 := A_ hy532
    clear hy532
    have H' := A_ H
    clear H
    obtain ⟨hcz10_0, hcz10_1, hfz10_0, hfz10_1⟩ := c2_ BK516
    try go_wp2_with (first | ((with_reducible refine gA_ (f := 84) rfl ?_); refine gL_ (some 10) Tryz.func84 #[.agg #[.slice A0_0 l0_0.length c0_0, .slice A0_1 l0_1.length c0_1]] rfl qa_ ?_; (with_reducible refine (Z8.calls k1 _ _ l0_0 _ _ l0_1 t520 _ (cb_ HR0_0) HC0_0.out (cb_ HR0_1) HC0_1.out A5.out).mono ?_); rintro e w11 ⟨rfl, hb⟩; refine ⟨_, rfl, ?_⟩; replace HO_3 := sb_ HO_3 hb; replace BK516 := bb_ BK516 hb; replace HB := b1_ hb; clear hb))
    replace HO_3 := A_ (Kd.S_drew HO_3.out)
    replace BK516 := A_ (kB_ BK516.out)
    replace HB := A_ (bC_ HB.out)
    refine start_ (n := 11) (S := fun w' => w'.cell? ⟨gb516, 0, none⟩ = some (.slice A0_0 l0_0.length c0_0) ∧ w'.cell? ⟨gb516, 1, none⟩ = some (.slice A0_1 l0_1.length c0_1)) (ds := []) (bl_ 11 0) (by kernel_rfl) rfl (by kernel_rfl) ⟨cz0_ BK516, cz1_ BK516⟩ (fun hHeld => ?_); refine with_tabW Z30.tab5 Z30.bits5 (fun HT_ HW_ => ?_)
    generalize w11.drew = w12 at HO_3 BK516 HB hHeld ⊢
    refine pu_ 2 (some 17) (bl_ 11 4) HT_ ?_
    refine ta_ 0 (some 15) (bl_ 11 5) HT_ HW_ hHeld ?_
    refine ta_ 1 (some 16) (bl_ 11 7) HT_ HW_ hHeld ?_
    refine join_ (σ := Value × Value × Value × Nat) 2 (bl_ 11 511) (fun s_ => [(18, s_.1), (19, .tuple #[.agg #[s_.2.1, s_.2.2.1], .bool t530]), (5, .pointer (some ⟨s_.2.2.2, 0, none⟩)), (14, .tuple #[.agg #[s_.2.1, s_.2.2.1], .bool t530]), (20, .agg #[s_.2.1, s_.2.2.1]), (21, .bool t530)]) (fun s_ w' => (w'.cell? ⟨gb516, 0, none⟩ = some (.slice A0_0 l0_0.length c0_0) ∧ w'.cell? ⟨gb516, 1, none⟩ = some (.slice A0_1 l0_1.length c0_1)) ∧ (Kd.R (Kd.int .i64) 3 w' w.heap.size (fun k_ => some k_ ≠ (s_.2.1 : Value).ownBlock ∧ some k_ ≠ (s_.2.2.1 : Value).ownBlock) s_.1 t521) ∧ (Kd.R (Kd.int .i64) 3 w' w.heap.size (fun k_ => some k_ ≠ (s_.1 : Value).ownBlock ∧ some k_ ≠ (s_.2.2.1 : Value).ownBlock) s_.2.1 t524) ∧ (Kd.R (Kd.int .i64) 3 w' w.heap.size (fun k_ => some k_ ≠ (s_.1 : Value).ownBlock ∧ some k_ ≠ (s_.2.1 : Value).ownBlock) s_.2.2.1 t527) ∧ (Kd.S k38 38 w' w.heap.size (fun k_ => some k_ ≠ (s_.1 : Value).ownBlock ∧ some k_ ≠ (s_.2.1 : Value).ownBlock ∧ some k_ ≠ (s_.2.2.1 : Value).ownBlock ∧ k_ ≠ gb516 ∧ k_ ≠ s_.2.2.2) u3 x3_1) ∧ (w'.heap[gb516]? = some (.cells #[.slice A0_0 l0_0.length c0_0, .slice A0_1 l0_1.length c0_1] 38 (0, 0))) ∧ (w'.heap[s_.2.2.2]? = some (.cells #[.slice none 0 0, .slice none 0 0] 38 (0, 0))) ∧ (w.heap.size ≤ s_.2.2.2) ∧ (w.heap.size ≤ s_.2.2.2) ∧ (gb516 ≠ s_.2.2.2) ∧ (s_.2.2.2 ≠ gb516) ∧ (Below w.heap.size w w')) ?_ ?_
    rotate_left
    ·intro hCont
     refine two_ (i := 3) (j := 8) (Ni := some 18) (Nj := some 5) (bl_ 11 15) (bl_ 11 263) rfl rfl rfl rfl (two_of HT_.out (by kernel_rfl)) (by decide) (by decide) (fun K hK => ?_) (fun K hK => ?_)
     ·skip
      refine gO_ Tryz.func86 #[.agg #[.slice A0_0 l0_0.length c0_0, .slice A0_1 l0_1.length c0_1], .int .i64 x4_1] (by rfl) rfl rfl qa_ ?_
      with_reducible refine (Z27.calls k1 _ _ l0_0 _ _ l0_1 x4_1 t521 _ (cb_ HR0_0) HC0_0.out (cb_ HR0_1) HC0_1.out A7.out).mono ?_
      rintro e w13 ⟨v522, rfl, ho0, hb⟩
      refine ⟨_, rfl, ?_⟩
      replace HO_3 := A_ (Kd.S_elder' (ss_ HO_3) (Kd.R_base ho0) hb)
      have HO523 := rl_ w ho0
      replace BK516 := bb_ BK516 hb
      replace HB := b1_ hb
      clear hb ho0
      obtain ⟨Ao14, co14, eo14⟩ := Kd.R_slice HO523.out
      (first | subst eo14 | (injection eo14 with f1_ f2_ f3_; have f4_ := f1_.symm; have f5_ := f3_.symm; clear f1_ f2_ f3_; subst f4_; subst f5_))
      refine hK.out _ _ ⟨cz0_ BK516, cz1_ BK516⟩ (fun hHeld => ?_)
      clear hK K
      refine no_ (some 18) ?_
      refine two_ (i := 4) (j := 8) (Ni := some 19) (Nj := some 5) (bl_ 11 31) (bl_ 11 271) rfl rfl rfl rfl (two_of HT_.out (by kernel_rfl)) (by decide) (by decide) (fun K hK => ?_) (fun K hK => ?_)
      ·skip
       refine gO_ Tryz.func85 #[.agg #[.slice A0_0 l0_0.length c0_0, .slice A0_1 l0_1.length c0_1], .slice Ao14 t521.length co14] (by rfl) rfl rfl qa_ ?_
       with_reducible refine (Z7.calls k1 _ _ l0_0 _ _ l0_1 _ _ t521 t524 t527 t530 _ (cb_ HR0_0) HC0_0.out (cb_ HR0_1) HC0_1.out (cr_ HO523) ((Kd.R_reads' HO523.out).2.1) A8.out).mono ?_
       rintro e w15 ⟨v525, v528, rfl, ho0, ho1, hb⟩
       refine ⟨_, rfl, ?_⟩
       replace HO_3 := A_ (Kd.S_mono (Kd.S_told (Kd.S_told (Kd.S_old (ss_ HO_3) hb) (Kd.R_base ho0)) (Kd.R_base ho1)) (fun _ h_ => h_.1))
       have HO526 := A_ (rE_ (Kd.R_new' ho0 (Kd.R_lt (rr_ HO523))) (bF_ hB_))
       have HO529 := A_ (rE_ (Kd.R_new' ho1 (Kd.R_lt (rr_ HO523))) (bF_ hB_))
       replace HO523 := A_ (Kd.R_mono (Kd.R_told (Kd.R_told (Kd.R_old (rr_ HO523) hb) (Kd.R_base ho0)) (Kd.R_base ho1)) (fun _ h_ => h_.1))
       replace BK516 := bb_ BK516 hb
       replace HB := b1_ hb
       clear hb ho0 ho1
       refine hK.out _ _ ⟨cz0_ BK516, cz1_ BK516⟩ (fun hHeld => ?_)
       clear hK K
       refine no_ (some 19) ?_
       refine pu_ 5 (some 14) (bl_ 11 63) HT_ ?_
       refine pu_ 6 (some 20) (bl_ 11 127) HT_ ?_
       refine pu_ 7 (some 21) (bl_ 11 255) HT_ ?_
       refine on_ 8 (some 5) (bl_ 11 511) HT_ (fun K hK => ?_)
       refine box_step ?hg (N := 5) ?hd (cs := #[.slice none 0 0, .slice none 0 0]) (t := 38) ?hr ?_; (case hd => rfl); (case hg => rfl); (case hr => first | (go_simp; done) | (go_simp; rfl))
       intro gb531 hg w16 hbox hb
       replace HO_3 := A_ (Kd.S_below (Kd.S_elderB (ss_ HO_3) gb531 (Nat.le_of_eq hg.symm)) hb)
       replace HO523 := rb_ HO523 hb
       replace HO526 := rb_ HO526 hb
       replace HO529 := rb_ HO529 hb
       have BK531 := A_ hbox
       have GW531 := gw_ w hg
       have GE531 := GW531
       replace HB := b1_ hb
       have NB516_531 := gN_ BK516 hg
       have NB531_516 := gP_ BK516 hg
       replace BK516 := bb_ BK516 hb
       clear hb hbox hg
       refine hK.out _ _ ⟨cz0_ BK516, cz1_ BK516⟩ (fun hHeld => ?_)
       clear hK K
       refine no_ (some 5) ?_
       exact norm_ (by simp only [putAll, Act.put, sA_, sB_, sC_]) (hCont (.slice Ao14 t521.length co14, v525, v528, gb531) _ ⟨hHeld, (rw_ (Kd.R_mono HO523.out (fun _ hk => ⟨hk.1.2, hk.2⟩))), (rw_ (Kd.R_mono HO526.out (fun _ hk => ⟨hk.2, hk.1⟩))), (rw_ (Kd.R_mono HO529.out (fun _ hk => ⟨hk.2, hk.1⟩))), (sw_ (Kd.S_mono HO_3.out (fun _ hk => ⟨hk.1.1.1.2, ⟨hk.1.1.2, ⟨hk.1.2, ⟨hk.1.1.1.1, hk.2⟩⟩⟩⟩))), (kk_ BK516), (kk_ BK531), GW531.out, GE531.out, NB516_531.out, NB531_516.out, hB_⟩)
      ·skip
       refine box_step ?hg (N := 5) ?hd (cs := #[.slice none 0 0, .slice none 0 0]) (t := 38) ?hr ?_; (case hd => rfl); (case hg => rfl); (case hr => first | (go_simp; done) | (go_simp; rfl))
       intro gb531 hg w14 hbox hb
       replace HO_3 := A_ (Kd.S_below (Kd.S_elderB (ss_ HO_3) gb531 (Nat.le_of_eq hg.symm)) hb)
       replace HO523 := rb_ HO523 hb
       have BK531 := A_ hbox
       have GW531 := gw_ w hg
       have GE531 := GW531
       replace HB := b1_ hb
       have NB516_531 := gN_ BK516 hg
       have NB531_516 := gP_ BK516 hg
       replace BK516 := bb_ BK516 hb
       clear hb hbox hg
       obtain ⟨Ao15, co15, eo15⟩ := Kd.R_slice HO523.out
       (first | subst eo15 | (injection eo15 with f1_ f2_ f3_; have f4_ := f1_.symm; have f5_ := f3_.symm; clear f1_ f2_ f3_; subst f4_; subst f5_))
       refine hK.out _ _ ⟨cz0_ BK516, cz1_ BK516⟩ (fun hHeld => ?_)
       clear hK K
       refine no_ (some 5) ?_
       refine on_ 4 (some 19) (bl_ 11 287) HT_ (fun K hK => ?_)
       refine gO_ Tryz.func85 #[.agg #[.slice A0_0 l0_0.length c0_0, .slice A0_1 l0_1.length c0_1], .slice Ao15 t521.length co15] (by rfl) rfl rfl qa_ ?_
       with_reducible refine (Z7.calls k1 _ _ l0_0 _ _ l0_1 _ _ t521 t524 t527 t530 _ (cb_ HR0_0) HC0_0.out (cb_ HR0_1) HC0_1.out (cr_ HO523) ((Kd.R_reads' HO523.out).2.1) A8.out).mono ?_
       rintro e w16 ⟨v525, v528, rfl, ho0, ho1, hb⟩
       refine ⟨_, rfl, ?_⟩
       replace HO_3 := A_ (Kd.S_mono (Kd.S_told (Kd.S_told (Kd.S_old (ss_ HO_3) hb) (Kd.R_base ho0)) (Kd.R_base ho1)) (fun _ h_ => h_.1))
       have HO526 := A_ (rE_ (Kd.R_new' ho0 (Kd.R_lt (rr_ HO523))) (bF_ hB_))
       have HO529 := A_ (rE_ (Kd.R_new' ho1 (Kd.R_lt (rr_ HO523))) (bF_ hB_))
       replace HO523 := A_ (Kd.R_mono (Kd.R_told (Kd.R_told (Kd.R_old (rr_ HO523) hb) (Kd.R_base ho0)) (Kd.R_base ho1)) (fun _ h_ => h_.1))
       replace BK516 := bb_ BK516 hb
       replace BK531 := bb_ BK531 hb
       replace HB := b1_ hb
       clear hb ho0 ho1
       refine hK.out _ _ ⟨cz0_ BK516, cz1_ BK516⟩ (fun hHeld => ?_)
       clear hK K
       refine no_ (some 19) ?_
       refine pu_ 5 (some 14) (bl_ 11 319) HT_ ?_
       refine pu_ 6 (some 20) (bl_ 11 383) HT_ ?_
       refine pu_ 7 (some 21) (bl_ 11 511) HT_ ?_
       exact norm_ (by simp only [putAll, Act.put, sA_, sB_, sC_]) (hCont (.slice Ao15 t521.length co15, v525, v528, gb531) _ ⟨hHeld, (rw_ (Kd.R_mono HO523.out (fun _ hk => ⟨hk.1.2, hk.2⟩))), (rw_ (Kd.R_mono HO526.out (fun _ hk => ⟨hk.2, hk.1⟩))), (rw_ (Kd.R_mono HO529.out (fun _ hk => ⟨hk.2, hk.1⟩))), (sw_ (Kd.S_mono HO_3.out (fun _ hk => ⟨hk.1.1.1.2, ⟨hk.1.2, ⟨hk.2, ⟨hk.1.1.1.1, hk.1.1.2⟩⟩⟩⟩))), (kk_ BK516), (kk_ BK531), GW531.out, GE531.out, NB516_531.out, NB531_516.out, hB_⟩)
     ·skip
      refine box_step ?hg (N := 5) ?hd (cs := #[.slice none 0 0, .slice none 0 0]) (t := 38) ?hr ?_; (case hd => rfl); (case hg => rfl); (case hr => first | (go_simp; done) | (go_simp; rfl))
      intro gb531 hg w13 hbox hb
      replace HO_3 := A_ (Kd.S_below (Kd.S_elderB (ss_ HO_3) gb531 (Nat.le_of_eq hg.symm)) hb)
      have BK531 := A_ hbox
      have GW531 := gw_ w hg
      have GE531 := GW531
      replace HB := b1_ hb
      have NB516_531 := gN_ BK516 hg
      have NB531_516 := gP_ BK516 hg
      replace BK516 := bb_ BK516 hb
      clear hb hbox hg
      refine hK.out _ _ ⟨cz0_ BK516, cz1_ BK516⟩ (fun hHeld => ?_)
      clear hK K
      refine no_ (some 5) ?_
      refine on_ 3 (some 18) (bl_ 11 271) HT_ (fun K hK => ?_)
      refine gO_ Tryz.func86 #[.agg #[.slice A0_0 l0_0.length c0_0, .slice A0_1 l0_1.length c0_1], .int .i64 x4_1] (by rfl) rfl rfl qa_ ?_
      with_reducible refine (Z27.calls k1 _ _ l0_0 _ _ l0_1 x4_1 t521 _ (cb_ HR0_0) HC0_0.out (cb_ HR0_1) HC0_1.out A7.out).mono ?_
      rintro e w14 ⟨v522, rfl, ho0, hb⟩
      refine ⟨_, rfl, ?_⟩
      replace HO_3 := A_ (Kd.S_elder' (ss_ HO_3) (Kd.R_base ho0) hb)
      have HO523 := rl_ w ho0
      replace BK516 := bb_ BK516 hb
      replace BK531 := bb_ BK531 hb
      replace HB := b1_ hb
      clear hb ho0
      obtain ⟨Ao15, co15, eo15⟩ := Kd.R_slice HO523.out
      (first | subst eo15 | (injection eo15 with f1_ f2_ f3_; have f4_ := f1_.symm; have f5_ := f3_.symm; clear f1_ f2_ f3_; subst f4_; subst f5_))
      refine hK.out _ _ ⟨cz0_ BK516, cz1_ BK516⟩ (fun hHeld => ?_)
      clear hK K
      refine no_ (some 18) ?_
      refine on_ 4 (some 19) (bl_ 11 287) HT_ (fun K hK => ?_)
      refine gO_ Tryz.func85 #[.agg #[.slice A0_0 l0_0.length c0_0, .slice A0_1 l0_1.length c0_1], .slice Ao15 t521.length co15] (by rfl) rfl rfl qa_ ?_
      with_reducible refine (Z7.calls k1 _ _ l0_0 _ _ l0_1 _ _ t521 t524 t527 t530 _ (cb_ HR0_0) HC0_0.out (cb_ HR0_1) HC0_1.out (cr_ HO523) ((Kd.R_reads' HO523.out).2.1) A8.out).mono ?_
      rintro e w16 ⟨v525, v528, rfl, ho0, ho1, hb⟩
      refine ⟨_, rfl, ?_⟩
      replace HO_3 := A_ (Kd.S_mono (Kd.S_told (Kd.S_told (Kd.S_old (ss_ HO_3) hb) (Kd.R_base ho0)) (Kd.R_base ho1)) (fun _ h_ => h_.1))
      have HO526 := A_ (rE_ (Kd.R_new' ho0 (Kd.R_lt (rr_ HO523))) (bF_ hB_))
      have HO529 := A_ (rE_ (Kd.R_new' ho1 (Kd.R_lt (rr_ HO523))) (bF_ hB_))
      replace HO523 := A_ (Kd.R_mono (Kd.R_told (Kd.R_told (Kd.R_old (rr_ HO523) hb) (Kd.R_base ho0)) (Kd.R_base ho1)) (fun _ h_ => h_.1))
      replace BK516 := bb_ BK516 hb
      replace BK531 := bb_ BK531 hb
      replace HB := b1_ hb
      clear hb ho0 ho1
      refine hK.out _ _ ⟨cz0_ BK516, cz1_ BK516⟩ (fun hHeld => ?_)
      clear hK K
      refine no_ (some 19) ?_
      refine pu_ 5 (some 14) (bl_ 11 319) HT_ ?_
      refine pu_ 6 (some 20) (bl_ 11 383) HT_ ?_
      refine pu_ 7 (some 21) (bl_ 11 511) HT_ ?_
      exact norm_ (by simp only [putAll, Act.put, sA_, sB_, sC_]) (hCont (.slice Ao15 t521.length co15, v525, v528, gb531) _ ⟨hHeld, (rw_ (Kd.R_mono HO523.out (fun _ hk => ⟨hk.1.2, hk.2⟩))), (rw_ (Kd.R_mono HO526.out (fun _ hk => ⟨hk.2, hk.1⟩))), (rw_ (Kd.R_mono HO529.out (fun _ hk => ⟨hk.2, hk.1⟩))), (sw_ (Kd.S_mono HO_3.out (fun _ hk => ⟨hk.1.1.2, ⟨hk.1.2, ⟨hk.2, ⟨hk.1.1.1.1, hk.1.1.1.2⟩⟩⟩⟩))), (kk_ BK516), (kk_ BK531), GW531.out, GE531.out, NB516_531.out, NB531_516.out, hB_⟩)
    rintro ⟨v522, v525, v528, gb531⟩ w17 ⟨hS_, h0_, h1_, h2_, h3_, h4_, h5_, h6_, h7_, h8_, h9_, h10_⟩
    have n0_ : Aside0 (Kd.R (Kd.int .i64) 3 w17 w.heap.size (fun k_ => some k_ ≠ (v525 : Value).ownBlock ∧ some k_ ≠ (v528 : Value).ownBlock) v522 t521) := ⟨h0_⟩
    have n1_ : Aside0 (Kd.R (Kd.int .i64) 3 w17 w.heap.size (fun k_ => some k_ ≠ (v522 : Value).ownBlock ∧ some k_ ≠ (v528 : Value).ownBlock) v525 t524) := ⟨h1_⟩
    have n2_ : Aside0 (Kd.R (Kd.int .i64) 3 w17 w.heap.size (fun k_ => some k_ ≠ (v522 : Value).ownBlock ∧ some k_ ≠ (v525 : Value).ownBlock) v528 t527) := ⟨h2_⟩
    have n3_ : Aside0 (Kd.S k38 38 w17 w.heap.size (fun k_ => some k_ ≠ (v522 : Value).ownBlock ∧ some k_ ≠ (v525 : Value).ownBlock ∧ some k_ ≠ (v528 : Value).ownBlock ∧ k_ ≠ gb516 ∧ k_ ≠ gb531) u3 x3_1) := ⟨h3_⟩
    have n4_ : Aside0 (w17.heap[gb516]? = some (.cells #[.slice A0_0 l0_0.length c0_0, .slice A0_1 l0_1.length c0_1] 38 (0, 0))) := ⟨h4_⟩
    have n5_ : Aside0 (w17.heap[gb531]? = some (.cells #[.slice none 0 0, .slice none 0 0] 38 (0, 0))) := ⟨h5_⟩
    have n6_ : Aside0 (w.heap.size ≤ gb531) := ⟨h6_⟩
    have n7_ : Aside0 (w.heap.size ≤ gb531) := ⟨h7_⟩
    have n8_ : Aside0 (gb516 ≠ gb531) := ⟨h8_⟩
    have n9_ : Aside0 (gb531 ≠ gb516) := ⟨h9_⟩
    have n10_ : Aside0 (Below w.heap.size w w17) := ⟨h10_⟩
    clear HO_3
    clear BK516
    clear HB
    clear h0_ h1_ h2_ h3_ h4_ h5_ h6_ h7_ h8_ h9_ h10_
    have HO523 := n0_
    have HO526 := n1_
    have HO529 := n2_
    have HO_3 := n3_
    have BK516 := n4_
    have BK531 := n5_
    have GW531 := n6_
    have GE531 := n7_
    have NB516_531 := n8_
    have NB531_516 := n9_
    have HB := n10_
    clear n0_ n1_ n2_ n3_ n4_ n5_ n6_ n7_ n8_ n9_ n10_
    have hHeld : w17.cell? ⟨gb516, 0, none⟩ = some (.slice A0_0 l0_0.length c0_0) ∧ w17.cell? ⟨gb516, 1, none⟩ = some (.slice A0_1 l0_1.length c0_1) := hS_
    obtain ⟨Ao18, co18, eo18⟩ := Kd.R_slice HO526.out
    (first | subst eo18 | (injection eo18 with f1_ f2_ f3_; have f4_ := f1_.symm; have f5_ := f3_.symm; clear f1_ f2_ f3_; subst f4_; subst f5_))
    obtain ⟨Ao20, co20, eo20⟩ := Kd.R_slice HO529.out
    (first | subst eo20 | (injection eo20 with f1_ f2_ f3_; have f4_ := f1_.symm; have f5_ := f3_.symm; clear f1_ f2_ f3_; subst f4_; subst f5_))
    refine norm_ (a' := ?_) ?_ ?_
    rotate_left
    ·simp only [putAll, Act.put, sA_, sB_, sC_]
     rfl
    refine on_ 9 (none) (bl_ 11 1023) HT_ (fun K hK => ?_)
    have hs19 : w17.cell? ⟨gb531, 0, none⟩ = some (.slice none 0 0) := cz0_ BK531
    have hfs19 := kD_ BK531.out 0
    have hns19_0 := NB516_531.out
    have hms19_0 := NB531_516.out
    have hs21 : w17.cell? ⟨gb531, 1, none⟩ = some (.slice none 0 0) := cz1_ BK531
    have hfs21 := kD_ BK531.out 1
    have hns21_0 := NB516_531.out
    have hms21_0 := NB531_516.out
    refine skip_ (w1 := ?_) (by rfl) rfl ?_ ?_
    rotate_left
    ·go_simp
     rfl
    refine hK.out _ _ ⟨((cell_far (p := ⟨gb531, _, none⟩) NB516_531.out _).trans (((cell_far (p := ⟨gb531, _, none⟩) NB516_531.out _).trans (hHeld.1)))), ((cell_far (p := ⟨gb531, _, none⟩) NB516_531.out _).trans (((cell_far (p := ⟨gb531, _, none⟩) NB516_531.out _).trans (hHeld.2))))⟩ (fun hHeld => ?_)
    clear hK K
    refine pu_ 10 (some 6) (bl_ 11 2047) HT_ ?_
    refine done_ (done_of HT_.out (by kernel_rfl)) ?_
    have n0_ : Aside0 (Kd.S k38 38 ((w17.setCell ⟨gb531, 0, none⟩ (.slice Ao18 t524.length co18)).setCell ⟨gb531, 1, none⟩ (.slice Ao20 t527.length co20)) w.heap.size (fun k_ => some k_ ≠ (v522 : Value).ownBlock ∧ some k_ ≠ (.slice Ao18 t524.length co18 : Value).ownBlock ∧ some k_ ≠ (.slice Ao20 t527.length co20 : Value).ownBlock ∧ k_ ≠ gb516 ∧ k_ ≠ gb531) u3 x3_1) := ⟨(sw_ (Kd.S_mono (Kd.S_far (p := ⟨gb531, 1, none⟩) (Kd.S_far (p := ⟨gb531, 0, none⟩) (Kd.S_mono HO_3.out (fun k_ hk => (⟨hk, hk.2.2.2.2⟩ : _ ∧ k_ ≠ gb531))) (fun _ hk => hk.2) (.slice Ao18 t524.length co18)) (fun _ hk => hk.2) (.slice Ao20 t527.length co20)) (fun _ hk => ⟨hk.1.1, ⟨hk.1.2.1, ⟨hk.1.2.2.1, ⟨hk.1.2.2.2.1, hk.1.2.2.2.2⟩⟩⟩⟩)))⟩
    have n1_ : Aside0 (Kd.R (Kd.int .i64) 3 ((w17.setCell ⟨gb531, 0, none⟩ (.slice Ao18 t524.length co18)).setCell ⟨gb531, 1, none⟩ (.slice Ao20 t527.length co20)) w.heap.size (fun k_ => some k_ ≠ (.slice Ao18 t524.length co18 : Value).ownBlock ∧ some k_ ≠ (.slice Ao20 t527.length co20 : Value).ownBlock) v522 t521) := ⟨(rw_ (Kd.R_mono (Kd.R_far (p := ⟨gb531, 1, none⟩) (Kd.R_far (p := ⟨gb531, 0, none⟩) (Kd.R_types HO523.out BK531.out (by decide)) (fun _ hk => hk.2) (.slice Ao18 t524.length co18)) (fun _ hk => hk.2) (.slice Ao20 t527.length co20)) (fun _ hk => ⟨hk.1.1, hk.1.2⟩)))⟩
    have n2_ : Aside0 (Kd.R (Kd.int .i64) 3 ((w17.setCell ⟨gb531, 0, none⟩ (.slice Ao18 t524.length co18)).setCell ⟨gb531, 1, none⟩ (.slice Ao20 t527.length co20)) w.heap.size (fun k_ => some k_ ≠ (v522 : Value).ownBlock ∧ some k_ ≠ (.slice Ao20 t527.length co20 : Value).ownBlock) (.slice Ao18 t524.length co18) t524) := ⟨(rw_ (Kd.R_mono (Kd.R_far (p := ⟨gb531, 1, none⟩) (Kd.R_far (p := ⟨gb531, 0, none⟩) (Kd.R_types HO526.out BK531.out (by decide)) (fun _ hk => hk.2) (.slice Ao18 t524.length co18)) (fun _ hk => hk.2) (.slice Ao20 t527.length co20)) (fun _ hk => ⟨hk.1.1, hk.1.2⟩)))⟩
    have n3_ : Aside0 (Kd.R (Kd.int .i64) 3 ((w17.setCell ⟨gb531, 0, none⟩ (.slice Ao18 t524.length co18)).setCell ⟨gb531, 1, none⟩ (.slice Ao20 t527.length co20)) w.heap.size (fun k_ => some k_ ≠ (v522 : Value).ownBlock ∧ some k_ ≠ (.slice Ao18 t524.length co18 : Value).ownBlock) (.slice Ao20 t527.length co20) t527) := ⟨(rw_ (Kd.R_mono (Kd.R_far (p := ⟨gb531, 1, none⟩) (Kd.R_far (p := ⟨gb531, 0, none⟩) (Kd.R_types HO529.out BK531.out (by decide)) (fun _ hk => hk.2) (.slice Ao18 t524.length co18)) (fun _ hk => hk.2) (.slice Ao20 t527.length co20)) (fun _ hk => ⟨hk.1.1, hk.1.2⟩)))⟩
    have n4_ : Aside0 (((w17.setCell ⟨gb531, 0, none⟩ (.slice Ao18 t524.length co18)).setCell ⟨gb531, 1, none⟩ (.slice Ao20 t527.length co20)).heap[gb516]? = some (.cells #[.slice A0_0 l0_0.length c0_0, .slice A0_1 l0_1.length c0_1] 38 (0, 0))) := ⟨by (with_reducible repeat (first | refine kA_ ?_ _ | refine kB_ ?_ | refine kC_ ?_ _)); refine blk_far ?_ NB516_531.out _; (with_reducible repeat (first | refine kA_ ?_ _ | refine kB_ ?_ | refine kC_ ?_ _)); refine blk_far ?_ NB516_531.out _; (with_reducible repeat (first | refine kA_ ?_ _ | refine kB_ ?_ | refine kC_ ?_ _)); exact BK516.out⟩
    have n5_ : Aside0 (((w17.setCell ⟨gb531, 0, none⟩ (.slice Ao18 t524.length co18)).setCell ⟨gb531, 1, none⟩ (.slice Ao20 t527.length co20)).heap[gb531]? = some (.cells #[.slice Ao18 t524.length co18, .slice Ao20 t527.length co20] 38 (0, 0))) := ⟨qp_⟩
    have n6_ : Aside0 (Below w.heap.size w ((w17.setCell ⟨gb531, 0, none⟩ (.slice Ao18 t524.length co18)).setCell ⟨gb531, 1, none⟩ (.slice Ao20 t527.length co20))) := ⟨hB_⟩
    skip
    generalize ((w17.setCell ⟨gb531, 0, none⟩ (.slice Ao18 t524.length co18)).setCell ⟨gb531, 1, none⟩ (.slice Ao20 t527.length co20)) = w22 at n0_ n1_ n2_ n3_ n4_ n5_ n6_ ⊢
    have HO_3 := n0_
    have HO523 := n1_
    have HO526 := n2_
    have HO529 := n3_
    have BK516 := n4_
    have BK531 := n5_
    have HB := n6_
    clear n0_ n1_ n2_ n3_ n4_ n5_ n6_
    have hnb23 := NB531_516.out
    have hnc23 := NB516_531.out
    obtain ⟨hcz24_0, hcz24_1, hfz24_0, hfz24_1⟩ := c2_ BK531
    try go_wp2_with (first | ((with_reducible refine gate_builtin (b := .append) (xs := #[.tmp 22, .tmp 24]) rfl ?_); at_builtin; refine Kd.S_append k38 (w0 := w) w.heap.size rfl (.tmp 22) (.tmp 24) 28 38 (.agg #[(.slice none 0 0), (.slice none 0 0)]) 48 rfl Tryz.underlying28 info38 rfl (by decide) (by omega) u3 x3_1 (⟨t524, t527⟩ : S38) [.slice Ao18 t524.length co18, .slice Ao20 t527.length co20] (fun k_ => some k_ ≠ (v522 : Value).ownBlock ∧ k_ ≠ gb516 ∧ k_ ≠ gb531) (fun k_ => some k_ = (.slice Ao18 t524.length co18 : Value).ownBlock ∨ some k_ = (.slice Ao20 t527.length co20 : Value).ownBlock) rfl rfl ?aP (fun k_ hk_ => hk_.elim (fun h_ => ((Kd.R_mono (ok' := fun k_ => ((fun k_ => some k_ ≠ (v522 : Value).ownBlock ∧ k_ ≠ gb516 ∧ k_ ≠ gb531)) k_ ∧ some k_ ≠ (u3 : Value).ownBlock) (Kd.R_types (Kd.R_types (Kd.R_apart' (HO526.out) (Kd.S_typed HO_3.out) (by decide)) BK516.out (by decide)) BK531.out (by decide)) (fun k_ hk => ⟨⟨hk.1.1.1.1, ⟨hk.1.2, hk.2⟩⟩, hk.1.1.2⟩))).1 k_ h_.symm) (fun h_ => ((Kd.R_mono (ok' := fun k_ => ((fun k_ => some k_ ≠ (v522 : Value).ownBlock ∧ k_ ≠ gb516 ∧ k_ ≠ gb531)) k_ ∧ some k_ ≠ (u3 : Value).ownBlock) (Kd.R_types (Kd.R_types (Kd.R_apart' (HO529.out) (Kd.S_typed HO_3.out) (by decide)) BK516.out (by decide)) BK531.out (by decide)) (fun k_ hk => ⟨⟨hk.1.1.1.1, ⟨hk.1.2, hk.2⟩⟩, hk.1.1.2⟩))).1 k_ h_.symm)) ?aF ?aO ?aB ?aS ?aL ?_; (case aP => exact k38_mkM _ _ _ (⟨t524, t527⟩ : S38) (Kd.R_mono (Kd.R_tight rfl (Kd.R_mono (ok' := fun k_ => ((fun k_ => some k_ ≠ (v522 : Value).ownBlock ∧ k_ ≠ gb516 ∧ k_ ≠ gb531)) k_ ∧ some k_ ≠ (u3 : Value).ownBlock) (Kd.R_types (Kd.R_types (Kd.R_apart' (HO526.out) (Kd.S_typed HO_3.out) (by decide)) BK516.out (by decide)) BK531.out (by decide)) (fun k_ hk => ⟨⟨hk.1.1.1.1, ⟨hk.1.2, hk.2⟩⟩, hk.1.1.2⟩))) (fun _ h_ => Or.inl h_)) (Kd.R_mono (Kd.R_tight rfl (Kd.R_mono (ok' := fun k_ => ((fun k_ => some k_ ≠ (v522 : Value).ownBlock ∧ k_ ≠ gb516 ∧ k_ ≠ gb531)) k_ ∧ some k_ ≠ (u3 : Value).ownBlock) (Kd.R_types (Kd.R_types (Kd.R_apart' (HO529.out) (Kd.S_typed HO_3.out) (by decide)) BK516.out (by decide)) BK531.out (by decide)) (fun k_ hk => ⟨⟨hk.1.1.1.1, ⟨hk.1.2, hk.2⟩⟩, hk.1.1.2⟩))) (fun _ h_ => Or.inr (h_))) (fun k_ h_ e_ => (HO526.out.1 k_ h_).2 e_.symm)); (case aB => exact hB_); (case aF => exact (fun k_ hk => ⟨Kd.fresh' (Kd.R_lt (rr_ HO523)) k_ hk, Kd.freshB (kk_ BK516) k_ hk, Kd.freshB (kk_ BK531) k_ hk⟩)); (case aO => exact (sw_ (Kd.S_mono HO_3.out (fun k_ hk => ⟨⟨hk.1, ⟨hk.2.2.2.1, hk.2.2.2.2⟩⟩, fun e_ => e_.elim (fun h_ => hk.2.1 h_) (fun h_ => hk.2.2.1 h_)⟩)))); (case aS => exact (bF_ hB_)); (case aL => have := LMc9.out; omega); intro v533 w25 ho hb hg hat; rw [← Ny532.out] at ho; replace BK516 := A_ (blk_grown (kk_ BK516) hg (Kd.S_away HO_3.out (fun _ hk => hk.2.2.2.1))); replace HO523 := A_ (Kd.R_over' (rr_ HO523) (Kd.S_typed (ss_ HO_3)) (by decide) hg); replace BK531 := A_ (blk_grown (kk_ BK531) hg (Kd.S_away HO_3.out (fun _ hk => hk.2.2.2.2))); replace HB := A_ hb; have HO534 := A_ ho; clear HO_3 HO526 HO529; clear ho hb hg hat))
    go_roundg k1
    case measure => have := HK1.out; omega
    case rel => exact ⟨(y532), (wrap64 (x4_1 + 1)), qc_, H', ⟨by have := HK1.out; omega⟩, ⟨(sw_ (Kd.S_mono HO534.out (fun _ hk => hk.2.1)))⟩, ⟨(kk_ BK516)⟩, ⟨hB_⟩⟩
   ·rw [if_neg c6] at H
    have c6b0 := oD_ c6
    clear c6
    obtain rfl := Option.some.inj H
    obtain ⟨hcz26_0, hcz26_1, hfz26_0, hfz26_1⟩ := c2_ BK516
    go_wp2_with (first | ((with_reducible refine gA_ (f := 84) rfl ?_); refine gL_ (some 10) Tryz.func84 #[.agg #[.slice A0_0 l0_0.length c0_0, .slice A0_1 l0_1.length c0_1]] rfl qa_ ?_; (with_reducible refine (Z8.calls k1 _ _ l0_0 _ _ l0_1 t520 _ (cb_ HR0_0) HC0_0.out (cb_ HR0_1) HC0_1.out A5.out).mono ?_); rintro e w27 ⟨rfl, hb⟩; refine ⟨_, rfl, ?_⟩; replace HO_3 := sb_ HO_3 hb; replace BK516 := bb_ BK516 hb; replace HB := b1_ hb; clear hb))
    go_ret
    exact ⟨_, qb_, (sw_ (Kd.S_mono HO_3.out (fun _ hk => trivial))), hB_⟩
def Z40.f (a0 : Int) : Option (Bool) := some (a0 != a0)
set_option maxHeartbeats 8000000 in
set_option maxRecDepth 100000 in
theorem Z40.calls (a0 : Int) (r : Bool) (w : World) (h : Z40.f a0 = some r) :
  Calls Tryz.prog 74 #[.int .i64 a0] w fun e w' => e = .returned (.bool r) ∧ Drawn0 w w' := by
 have H := h
 unfold Z40.f at H
 clear h
 obtain rfl := Option.some.inj H
 go_enter Tryz.func74, Tryz.ntmps74
 go_wp2
 go_ret
 exact ⟨qc_, by repeat (first | exact Drawn0.refl _ | apply Drawn0.step)⟩
def Z18.f (a0 : Int) (a1 : Int) : Option (Int) := (Z40.f a0).bind fun t535 => ((Z40.f a1).bind fun t536 => (if t535 = true then (if t536 = true then (some 0) else (some (-1))) else (if t536 = true then (some 1) else (if a0 < a1 then (some (-1)) else (if a0 > a1 then (some 1) else (some 0))))))
set_option maxHeartbeats 8000000 in
set_option maxRecDepth 100000 in
theorem Z18.calls (a0 : Int) (a1 : Int) (r : Int) (w : World) (h : Z18.f a0 a1 = some r) :
  Calls Tryz.prog 43 #[.int .i64 a0, .int .i64 a1] w fun e w' => e = .returned (.int .i64 r) ∧ Drawn0 w w' := by
 have H := h
 unfold Z18.f at H
 clear h
 obtain ⟨t535, A3, H⟩ := bi_ H
 obtain ⟨t536, A4, H⟩ := bi_ H
 by_cases c5 : t535 = true
 ·subst c5
  rw [if_pos rfl] at H
  by_cases c6 : t536 = true
  ·subst c6
   rw [if_pos rfl] at H
   obtain rfl := Option.some.inj H
   go_enter Tryz.func43, Tryz.ntmps43
   go_wp2_with (first | ((with_reducible refine gA_ (f := 74) rfl ?_); refine gL_ (some 8) Tryz.func74 #[.int .i64 a0] rfl qa_ ?_; (with_reducible refine (Z40.calls a0 true _ A3.out).mono ?_); rintro e w' ⟨rfl, ⟨nd, rfl⟩⟩; refine ⟨_, rfl, ?_⟩) | ((with_reducible refine gA_ (f := 74) rfl ?_); refine gL_ (some 10) Tryz.func74 #[.int .i64 a1] rfl qa_ ?_; (with_reducible refine (Z40.calls a1 true _ A4.out).mono ?_); rintro e w' ⟨rfl, ⟨nd, rfl⟩⟩; refine ⟨_, rfl, ?_⟩))
   go_ret
   exact ⟨qc_, by repeat (first | exact Drawn0.refl _ | apply Drawn0.step)⟩
  ·replace c6 := Bool.eq_false_iff.mpr c6
   subst c6
   have H1 : (some (-1)) = some r := by rw [if_neg (show ¬ (false = true) by decide)] at H; exact H
   clear H
   have H := H1
   clear H1
   obtain rfl := Option.some.inj H
   go_enter Tryz.func43, Tryz.ntmps43
   go_wp2_with (first | ((with_reducible refine gA_ (f := 74) rfl ?_); refine gL_ (some 8) Tryz.func74 #[.int .i64 a0] rfl qa_ ?_; (with_reducible refine (Z40.calls a0 true _ A3.out).mono ?_); rintro e w' ⟨rfl, ⟨nd, rfl⟩⟩; refine ⟨_, rfl, ?_⟩) | ((with_reducible refine gA_ (f := 74) rfl ?_); refine gL_ (some 10) Tryz.func74 #[.int .i64 a1] rfl qa_ ?_; (with_reducible refine (Z40.calls a1 false _ A4.out).mono ?_); rintro e w' ⟨rfl, ⟨nd, rfl⟩⟩; refine ⟨_, rfl, ?_⟩))
   go_ret
   exact ⟨qc_, by repeat (first | exact Drawn0.refl _ | apply Drawn0.step)⟩
 ·replace c5 := Bool.eq_false_iff.mpr c5
  subst c5
  have H1 : (if t536 = true then (some 1) else (if a0 < a1 then (some (-1)) else (if a0 > a1 then (some 1) else (some 0)))) = some r := by rw [if_neg (show ¬ (false = true) by decide)] at H; exact H
  clear H
  have H := H1
  clear H1
  by_cases c7 : t536 = true
  ·subst c7
   rw [if_pos rfl] at H
   obtain rfl := Option.some.inj H
   go_enter Tryz.func43, Tryz.ntmps43
   go_wp2_with (first | ((with_reducible refine gA_ (f := 74) rfl ?_); refine gL_ (some 8) Tryz.func74 #[.int .i64 a0] rfl qa_ ?_; (with_reducible refine (Z40.calls a0 false _ A3.out).mono ?_); rintro e w' ⟨rfl, ⟨nd, rfl⟩⟩; refine ⟨_, rfl, ?_⟩) | ((with_reducible refine gA_ (f := 74) rfl ?_); refine gL_ (some 10) Tryz.func74 #[.int .i64 a1] rfl qa_ ?_; (with_reducible refine (Z40.calls a1 true _ A4.out).mono ?_); rintro e w' ⟨rfl, ⟨nd, rfl⟩⟩; refine ⟨_, rfl, ?_⟩))
   go_ret
   exact ⟨qc_, by repeat (first | exact Drawn0.refl _ | apply Drawn0.step)⟩
  ·replace c7 := Bool.eq_false_iff.mpr c7
   subst c7
   have H1 : (if a0 < a1 then (some (-1)) else (if a0 > a1 then (some 1) else (some 0))) = some r := by rw [if_neg (show ¬ (false = true) by decide)] at H; exact H
   clear H
   have H := H1
   clear H1
   by_cases c8 : a0 < a1
   ·rw [if_pos c8] at H
    have c8b0 := oC_ c8
    clear c8
    obtain rfl := Option.some.inj H
    go_enter Tryz.func43, Tryz.ntmps43
    go_wp2_with (first | ((with_reducible refine gA_ (f := 74) rfl ?_); refine gL_ (some 8) Tryz.func74 #[.int .i64 a0] rfl qa_ ?_; (with_reducible refine (Z40.calls a0 false _ A3.out).mono ?_); rintro e w' ⟨rfl, ⟨nd, rfl⟩⟩; refine ⟨_, rfl, ?_⟩) | ((with_reducible refine gA_ (f := 74) rfl ?_); refine gL_ (some 10) Tryz.func74 #[.int .i64 a1] rfl qa_ ?_; (with_reducible refine (Z40.calls a1 false _ A4.out).mono ?_); rintro e w' ⟨rfl, ⟨nd, rfl⟩⟩; refine ⟨_, rfl, ?_⟩))
    go_ret
    exact ⟨qc_, by repeat (first | exact Drawn0.refl _ | apply Drawn0.step)⟩
   ·rw [if_neg c8] at H
    have c8b0 := oD_ c8
    clear c8
    by_cases c9 : a0 > a1
    ·rw [if_pos c9] at H
     have c9b0 : decide (a1 < a0) = true := oC_ c9
     clear c9
     obtain rfl := Option.some.inj H
     go_enter Tryz.func43, Tryz.ntmps43
     go_wp2_with (first | ((with_reducible refine gA_ (f := 74) rfl ?_); refine gL_ (some 8) Tryz.func74 #[.int .i64 a0] rfl qa_ ?_; (with_reducible refine (Z40.calls a0 false _ A3.out).mono ?_); rintro e w' ⟨rfl, ⟨nd, rfl⟩⟩; refine ⟨_, rfl, ?_⟩) | ((with_reducible refine gA_ (f := 74) rfl ?_); refine gL_ (some 10) Tryz.func74 #[.int .i64 a1] rfl qa_ ?_; (with_reducible refine (Z40.calls a1 false _ A4.out).mono ?_); rintro e w' ⟨rfl, ⟨nd, rfl⟩⟩; refine ⟨_, rfl, ?_⟩))
     go_ret
     exact ⟨qc_, by repeat (first | exact Drawn0.refl _ | apply Drawn0.step)⟩
    ·rw [if_neg c9] at H
     have c9b0 : decide (a1 < a0) = false := oD_ c9
     clear c9
     obtain rfl := Option.some.inj H
     go_enter Tryz.func43, Tryz.ntmps43
     go_wp2_with (first | ((with_reducible refine gA_ (f := 74) rfl ?_); refine gL_ (some 8) Tryz.func74 #[.int .i64 a0] rfl qa_ ?_; (with_reducible refine (Z40.calls a0 false _ A3.out).mono ?_); rintro e w' ⟨rfl, ⟨nd, rfl⟩⟩; refine ⟨_, rfl, ?_⟩) | ((with_reducible refine gA_ (f := 74) rfl ?_); refine gL_ (some 10) Tryz.func74 #[.int .i64 a1] rfl qa_ ?_; (with_reducible refine (Z40.calls a1 false _ A4.out).mono ?_); rintro e w' ⟨rfl, ⟨nd, rfl⟩⟩; refine ⟨_, rfl, ?_⟩))
     go_ret
     exact ⟨qc_, by repeat (first | exact Drawn0.refl _ | apply Drawn0.step)⟩
def Z3.l0 : Nat → List Int → List Int → List Int → Int → Int → Option (Int)
 | 0, _, _, _, _, _ => none
 | k + 1, x0, x1, x9, x10, x11 => if x11 < x10 then (if 0 ≤ x11 then (if x11 < (x9.length : Int) then (if x11 ≥ (x1.length : Int) then (some 1) else (if x11 < (x1.length : Int) then ((Z18.f (rd x9 x11) (rd x1 x11)).bind fun t539 => (if t539 = 0 then (Z3.l0 k x0 x1 x9 x10 (wrap64 (x11 + 1))) else (some t539))) else (none))) else (none)) else (none)) else (if (x0.length : Int) < (x1.length : Int) then (some (-1)) else (some 0))
def Z3.f (k : Nat) (l0 : List Int) (l1 : List Int) : Option (Int) := Z3.l0 k l0 l1 l0 (l0.length : Int) 0
theorem Z3.mono_l : ∀ k, (∀ y0 y1 y2 y3 y4, LeO (Z3.l0 k y0 y1 y2 y3 y4) (Z3.l0 (k + 1) y0 y1 y2 y3 y4))
 | 0 => fun _ _ _ _ _ r h => by simp [Z3.l0] at h
 | k + 1 => by
  have ih0 := Z3.mono_l k
  ·intro y0 y1 y2 y3 y4
   unfold Z3.l0
   repeat' first|exact ih0 _ _ _ _ _|exact lo_|refine LeO.ite ?_ ?_|refine LeO.bind ?_ (fun _ => ?_)
theorem Z3.mono : ∀ a0 a1 k, LeO (Z3.f k a0 a1) (Z3.f (k + 1) a0 a1) := by
 intro a0 a1 k
 have ih0 := Z3.mono_l k
 unfold Z3.f
 repeat' first|exact ih0 _ _ _ _ _|exact lo_|refine LeO.ite ?_ ?_|refine LeO.bind ?_ (fun _ => ?_)
set_option maxHeartbeats 8000000 in
set_option maxRecDepth 100000 in
theorem Z3.calls (k : Nat) (A0 : Option Addr) (c0 : Nat) (l0 : List Int) (A1 : Option Addr) (c1 : Nat) (l1 : List Int) (r : Int) (w : World) (hr0 : Kd.C (Kd.int .i64) w A0 l0.length l0) (hc0 : l0.length ≤ c0) (hr1 : Kd.C (Kd.int .i64) w A1 l1.length l1) (hc1 : l1.length ≤ c1) (h : Z3.f k l0 l1 = some r) :
  Calls Tryz.prog 26 #[.slice A0 l0.length c0, .slice A1 l1.length c1] w fun e w' => e = .returned (.int .i64 r) ∧ Drawn0 w w' := by
 have HR0 := A_ hr0
 have HC0 := A_ hc0
 clear hr0 hc0
 have HR1 := A_ hr1
 have HC1 := A_ hc1
 clear hr1 hc1
 have H := h
 unfold Z3.f at H
 clear h
 have H' := A_ H
 clear H
 go_enter Tryz.func26, Tryz.ntmps26
 go_wp2
 go_loopg [11] k (fun kq v11 w' => ∃ (x11_1 : Int), v11 = .int .i64 x11_1 ∧ Aside0 (Z3.l0 kq l0 l1 l0 (l0.length : Int) x11_1 = some r) ∧ Aside0 (kq ≤ k) ∧ Drawn0 w w')
 case atStart => exact ⟨(0), qc_, H', ⟨nA_ _⟩, by repeat (first | exact Drawn0.refl _ | apply Drawn0.step)⟩
 case round =>
  clear H'
  obtain ⟨x11_1, rfl, HA, HK1, ⟨m1, rfl⟩⟩ := hrel
  cases gk with
  | zero => exact absurd HA.out (by simp [Z3.l0])
  | succ k1 =>
   have H := HA.out
   clear HA
   simp only [Z3.l0] at H
   by_cases c3 : x11_1 < (l0.length : Int)
   ·rw [if_pos c3] at H
    have c3b0 := oC_ c3
    clear c3
    have c4 := cp_ H
    replace H := ca_ H
    have c4b0 := oC_ c4
    clear c4
    have c5 := cp_ H
    replace H := ca_ H
    have c5b0 := oC_ c5
    clear c5
    by_cases c6 : x11_1 ≥ (l1.length : Int)
    ·rw [if_pos c6] at H
     have c6b0 : decide ((l1.length : Int) ≤ x11_1) = true := oC_ c6
     clear c6
     obtain rfl := Option.some.inj H
     have p537 : 0 ≤ (x11_1 : Int) := oB_ qe_
     have q537 : x11_1 < (l0.length : Int) := oB_ qe_
     obtain ⟨ad537, e537, hx537_0⟩ := Kd.at_int HR0.out x11_1 p537 q537
     cases e537
     replace p537 := eq_true p537
     replace q537 := eq_true q537
     go_wp2
     go_ret
     exact ⟨qc_, by repeat (first | exact Drawn0.refl _ | apply Drawn0.step)⟩
    ·rw [if_neg c6] at H
     have c6b0 : decide ((l1.length : Int) ≤ x11_1) = false := oD_ c6
     clear c6
     have c7 := cp_ H
     replace H := ca_ H
     have c7b0 := oC_ c7
     clear c7
     obtain ⟨t539, A8, H⟩ := bi_ H
     by_cases c9 : t539 = 0
     ·rw [if_pos c9] at H
      have c9b0 : (t539 == 0) = true := beq_iff_eq.mpr c9
      have c9b1 : (t539 != 0) = false := bne_eq_false_iff_eq.mpr c9
      clear c9
      have H' := A_ H
      clear H
      have p537 : 0 ≤ (x11_1 : Int) := oB_ qe_
      have q537 : x11_1 < (l0.length : Int) := oB_ qe_
      obtain ⟨ad537, e537, hx537_0⟩ := Kd.at_int HR0.out x11_1 p537 q537
      cases e537
      replace p537 := eq_true p537
      replace q537 := eq_true q537
      have p538 : 0 ≤ (x11_1 : Int) := oB_ qe_
      have q538 : x11_1 < (l1.length : Int) := oB_ qe_
      obtain ⟨ad538, e538, hx538_0⟩ := Kd.at_int HR1.out x11_1 p538 q538
      cases e538
      replace p538 := eq_true p538
      replace q538 := eq_true q538
      go_wp2_with (first | ((with_reducible refine gA_ (f := 43) rfl ?_); refine gL_ (some 26) Tryz.func43 #[.int .i64 (rd l0 x11_1), .int .i64 (rd l1 x11_1)] rfl qa_ ?_; (with_reducible refine (Z18.calls (rd l0 x11_1) (rd l1 x11_1) t539 _ A8.out).mono ?_); rintro e w' ⟨rfl, ⟨nd, rfl⟩⟩; refine ⟨_, rfl, ?_⟩))
      go_roundg k1
      case measure => have := HK1.out; omega
      case rel => exact ⟨(wrap64 (x11_1 + 1)), qc_, H', ⟨by have := HK1.out; omega⟩, by repeat (first | exact Drawn0.refl _ | apply Drawn0.step)⟩
     ·rw [if_neg c9] at H
      have c9b0 : (t539 == 0) = false := beq_eq_false_iff_ne.mpr c9
      have c9b1 : (t539 != 0) = true := bne_iff_ne.mpr c9
      obtain rfl := Option.some.inj H
      have p537 : 0 ≤ (x11_1 : Int) := oB_ qe_
      have q537 : x11_1 < (l0.length : Int) := oB_ qe_
      obtain ⟨ad537, e537, hx537_0⟩ := Kd.at_int HR0.out x11_1 p537 q537
      cases e537
      replace p537 := eq_true p537
      replace q537 := eq_true q537
      have p538 : 0 ≤ (x11_1 : Int) := oB_ qe_
      have q538 : x11_1 < (l1.length : Int) := oB_ qe_
      obtain ⟨ad538, e538, hx538_0⟩ := Kd.at_int HR1.out x11_1 p538 q538
      cases e538
      replace p538 := eq_true p538
      replace q538 := eq_true q538
      go_wp2_with (first | ((with_reducible refine gA_ (f := 43) rfl ?_); refine gL_ (some 26) Tryz.func43 #[.int .i64 (rd l0 x11_1), .int .i64 (rd l1 x11_1)] rfl qa_ ?_; (with_reducible refine (Z18.calls (rd l0 x11_1) (rd l1 x11_1) t539 _ A8.out).mono ?_); rintro e w' ⟨rfl, ⟨nd, rfl⟩⟩; refine ⟨_, rfl, ?_⟩))
      go_ret
      exact ⟨qc_, by repeat (first | exact Drawn0.refl _ | apply Drawn0.step)⟩
   ·rw [if_neg c3] at H
    have c3b0 := oD_ c3
    clear c3
    by_cases c10 : (l0.length : Int) < (l1.length : Int)
    ·rw [if_pos c10] at H
     have c10b0 := oC_ c10
     have c10b1 : decide (l0.length < l1.length) = true := oC_ (Int.ofNat_lt.mp c10)
     clear c10
     obtain rfl := Option.some.inj H
     go_wp2
     go_ret
     exact ⟨qc_, by repeat (first | exact Drawn0.refl _ | apply Drawn0.step)⟩
    ·rw [if_neg c10] at H
     have c10b0 := oD_ c10
     have c10b1 : decide (l0.length < l1.length) = false := oD_ (fun h => c10 (Int.ofNat_lt.mpr h))
     clear c10
     obtain rfl := Option.some.inj H
     go_wp2
     go_ret
     exact ⟨qc_, by repeat (first | exact Drawn0.refl _ | apply Drawn0.step)⟩
def Z4.f (k : Nat) (l0_0 : List Int) (l0_1 : List Int) (l1_0 : List Int) (l1_1 : List Int) : Option (Int) := (Z3.f k l0_0 l1_0).bind fun t542 => (if t542 = 0 then ((Z3.f k l0_1 l1_1).bind fun t543 => (some t543)) else (some t542))
theorem Z4.mono : ∀ a0 a1 a2 a3 k, LeO (Z4.f k a0 a1 a2 a3) (Z4.f (k + 1) a0 a1 a2 a3) := by
 intro a0 a1 a2 a3 k
 unfold Z4.f
 repeat' first|exact Z3.mono _ _ _|exact lo_|refine LeO.ite ?_ ?_|refine LeO.bind ?_ (fun _ => ?_)
set_option maxHeartbeats 8000000 in
set_option maxRecDepth 100000 in
theorem Z4.calls (k : Nat) (A0_0 : Option Addr) (c0_0 : Nat) (l0_0 : List Int) (A0_1 : Option Addr) (c0_1 : Nat) (l0_1 : List Int) (A1_0 : Option Addr) (c1_0 : Nat) (l1_0 : List Int) (A1_1 : Option Addr) (c1_1 : Nat) (l1_1 : List Int) (r : Int) (w : World) (hr0_0 : Kd.C (Kd.int .i64) w A0_0 l0_0.length l0_0) (hc0_0 : l0_0.length ≤ c0_0) (hr0_1 : Kd.C (Kd.int .i64) w A0_1 l0_1.length l0_1) (hc0_1 : l0_1.length ≤ c0_1) (hr1_0 : Kd.C (Kd.int .i64) w A1_0 l1_0.length l1_0) (hc1_0 : l1_0.length ≤ c1_0) (hr1_1 : Kd.C (Kd.int .i64) w A1_1 l1_1.length l1_1) (hc1_1 : l1_1.length ≤ c1_1) (h : Z4.f k l0_0 l0_1 l1_0 l1_1 = some r) :
  Calls Tryz.prog 57 #[.agg #[.slice A0_0 l0_0.length c0_0, .slice A0_1 l0_1.length c0_1], .agg #[.slice A1_0 l1_0.length c1_0, .slice A1_1 l1_1.length c1_1]] w fun e w' => e = .returned (.int .i64 r) ∧ Below w.heap.size w w' := by
 have hu38 := Tryz.underlying38
 have HR0_0 := A_ hr0_0
 have HC0_0 := A_ hc0_0
 clear hr0_0 hc0_0
 have HR0_1 := A_ hr0_1
 have HC0_1 := A_ hc0_1
 clear hr0_1 hc0_1
 have HR1_0 := A_ hr1_0
 have HC1_0 := A_ hc1_0
 clear hr1_0 hc1_0
 have HR1_1 := A_ hr1_1
 have HC1_1 := A_ hc1_1
 clear hr1_1 hc1_1
 have HB := A_ (Below.refl w.heap.size w)
 have H := h
 unfold Z4.f at H
 clear h
 obtain ⟨t542, A3, H⟩ := bi_ H
 by_cases c4 : t542 = 0
 ·rw [if_pos c4] at H
  have c4b0 : (t542 == 0) = true := beq_iff_eq.mpr c4
  have c4b1 : (t542 != 0) = false := bne_eq_false_iff_eq.mpr c4
  clear c4
  obtain ⟨t543, A5, H⟩ := bi_ H
  obtain rfl := Option.some.inj H
  go_enter Tryz.func57, Tryz.ntmps57
  go_wp2_with (first | ((with_reducible refine gB_ (N := 2) rfl ?_); refine bx_ 2 #[.slice A0_0 l0_0.length c0_0, .slice A0_1 l0_1.length c0_1] 38 ?_; intro gb540 hg w6 hbox hb; have BK540 := A_ hbox; have GW540 := gw_ w hg; have GE540 := GW540; replace HB := b1_ hb; clear hb hbox hg) | ((with_reducible refine gB_ (N := 3) rfl ?_); refine bx_ 3 #[.slice A1_0 l1_0.length c1_0, .slice A1_1 l1_1.length c1_1] 38 ?_; intro gb541 hg w7 hbox hb; have BK541 := A_ hbox; have GW541 := gw_ w hg; have GE541 := GW541; replace HB := b1_ hb; have NB540_541 := gN_ BK540 hg; have NB541_540 := gP_ BK540 hg; replace BK540 := bb_ BK540 hb; clear hb hbox hg; have hnb8 := NB540_541.out; have hnc8 := NB541_540.out; obtain ⟨hcz9_0, hcz9_1, hfz9_0, hfz9_1⟩ := c2_ BK540; obtain ⟨hcz10_0, hcz10_1, hfz10_0, hfz10_1⟩ := c2_ BK541) | ((with_reducible refine gA_ (f := 26) rfl ?_); refine gL_ (some 10) Tryz.func26 #[.slice A0_0 l0_0.length c0_0, .slice A1_0 l1_0.length c1_0] rfl qa_ ?_; (with_reducible refine (Z3.calls k _ _ l0_0 _ _ l1_0 t542 _ (cb_ HR0_0) HC0_0.out (cb_ HR1_0) HC1_0.out A3.out).mono ?_); rintro e w' ⟨rfl, ⟨nd, rfl⟩⟩; refine ⟨_, rfl, ?_⟩) | ((with_reducible refine gA_ (f := 26) rfl ?_); refine gL_ (some 18) Tryz.func26 #[.slice A0_1 l0_1.length c0_1, .slice A1_1 l1_1.length c1_1] rfl qa_ ?_; (with_reducible refine (Z3.calls k _ _ l0_1 _ _ l1_1 t543 _ (cw_ (cD_ HR0_1.out hB_)) HC0_1.out (cw_ (cD_ HR1_1.out hB_)) HC1_1.out A5.out).mono ?_); rintro e w' ⟨rfl, ⟨nd, rfl⟩⟩; refine ⟨_, rfl, ?_⟩))
  go_ret
  exact ⟨qb_, hB_⟩
 ·rw [if_neg c4] at H
  have c4b0 : (t542 == 0) = false := beq_eq_false_iff_ne.mpr c4
  have c4b1 : (t542 != 0) = true := bne_iff_ne.mpr c4
  obtain rfl := Option.some.inj H
  go_enter Tryz.func57, Tryz.ntmps57
  go_wp2_with (first | ((with_reducible refine gB_ (N := 2) rfl ?_); refine bx_ 2 #[.slice A0_0 l0_0.length c0_0, .slice A0_1 l0_1.length c0_1] 38 ?_; intro gb540 hg w11 hbox hb; have BK540 := A_ hbox; have GW540 := gw_ w hg; have GE540 := GW540; replace HB := b1_ hb; clear hb hbox hg) | ((with_reducible refine gB_ (N := 3) rfl ?_); refine bx_ 3 #[.slice A1_0 l1_0.length c1_0, .slice A1_1 l1_1.length c1_1] 38 ?_; intro gb541 hg w12 hbox hb; have BK541 := A_ hbox; have GW541 := gw_ w hg; have GE541 := GW541; replace HB := b1_ hb; have NB540_541 := gN_ BK540 hg; have NB541_540 := gP_ BK540 hg; replace BK540 := bb_ BK540 hb; clear hb hbox hg; have hnb13 := NB540_541.out; have hnc13 := NB541_540.out; obtain ⟨hcz14_0, hcz14_1, hfz14_0, hfz14_1⟩ := c2_ BK540; obtain ⟨hcz15_0, hcz15_1, hfz15_0, hfz15_1⟩ := c2_ BK541) | ((with_reducible refine gA_ (f := 26) rfl ?_); refine gL_ (some 10) Tryz.func26 #[.slice A0_0 l0_0.length c0_0, .slice A1_0 l1_0.length c1_0] rfl qa_ ?_; (with_reducible refine (Z3.calls k _ _ l0_0 _ _ l1_0 t542 _ (cb_ HR0_0) HC0_0.out (cb_ HR1_0) HC1_0.out A3.out).mono ?_); rintro e w' ⟨rfl, ⟨nd, rfl⟩⟩; refine ⟨_, rfl, ?_⟩))
  go_ret
  exact ⟨qb_, hB_⟩
def Z20.l0 : Nat → List (S38) → Int → List Int → List Int → Option (List Int × List Int)
 | 0, _, _, _, _ => none
 | k + 1, x0, x6, x547000, x547001 => if x6 < (x0.length : Int) then (if 0 ≤ x6 then ((Z4.f k ((rd_T38 x0 x6).f0) ((rd_T38 x0 x6).f1) x547000 x547001).bind fun t548 => (if t548 < 0 then (Z20.l0 k x0 (wrap64 (x6 + 1)) ((rd_T38 x0 x6).f0) ((rd_T38 x0 x6).f1)) else (Z20.l0 k x0 (wrap64 (x6 + 1)) x547000 x547001))) else (none)) else (some (x547000, x547001))
def Z20.f (k : Nat) (l0 : List (S38)) : Option (List Int × List Int) := if (l0.length : Int) < 1 then (none) else (if 0 < (l0.length : Int) then (Z20.l0 k l0 1 ((rd_T38 l0 0).f0) ((rd_T38 l0 0).f1)) else (none))
theorem Z20.mono_l : ∀ k, (∀ y0 y1 y2 y3, LeO (Z20.l0 k y0 y1 y2 y3) (Z20.l0 (k + 1) y0 y1 y2 y3))
 | 0 => fun _ _ _ _ r h => by simp [Z20.l0] at h
 | k + 1 => by
  have ih0 := Z20.mono_l k
  ·intro y0 y1 y2 y3
   unfold Z20.l0
   repeat' first|exact ih0 _ _ _ _|exact Z4.mono _ _ _ _ _|exact lo_|refine LeO.ite ?_ ?_|refine LeO.bind ?_ (fun _ => ?_)
theorem Z20.mono : ∀ a0 k, LeO (Z20.f k a0) (Z20.f (k + 1) a0) := by
 intro a0 k
 have ih0 := Z20.mono_l k
 unfold Z20.f
 repeat' first|exact ih0 _ _ _ _|exact Z4.mono _ _ _ _ _|exact lo_|refine LeO.ite ?_ ?_|refine LeO.bind ?_ (fun _ => ?_)
def Z20.T7 : Bool × List (List Nat × List Nat) := (true, [([], []), ([], []), ([], []), ([1, 2], [1, 2]), ([3], [3]), ([], []), ([0, 4, 5], [0, 4, 5]), ([6], [6])])
def Z20.B7 : List Nat := [0, 0, 0, 6, 14, 0, 63, 127]
theorem Z20.tab7 : rtab .any (opsOf Tryz.f56 7) = Z20.T7 := by kernel_rfl
theorem Z20.bits7 : waitsOk Z20.T7.2 Z20.B7 = true := by kernel_rfl
def AtJ (w : World) (l0 : List S38) (A : Option Addr) (u0 u1 : Value) (x0 x1 : List Int) : Prop := ∃ (ad : Addr) (j : Nat), A = some ad ∧ j < l0.length ∧ w.cell? (ad.add (j * 2)) = some u0 ∧ w.cell? ⟨(ad.add (j * 2)).block, (ad.add (j * 2)).off + 1, none⟩ = some u1 ∧ x0 = (rd_T38 l0 (j : Int)).f0 ∧ x1 = (rd_T38 l0 (j : Int)).f1
theorem atJ_of {w w' : World} {P : Nat → Prop} {b : Nat} {ad : Addr} {c : Nat} {l0 : List S38} (hs0 : Kd.V k38 38 w b P (.slice (some ad) l0.length c) l0) (hB : Below w.heap.size w w') (i : Int) (h0 : 0 ≤ i) (h1 : i < (l0.length : Int)) {u0 u1 : Value} (hx0 : w'.cell? (ad.add (i.toNat * 2)) = some u0) (hx1 : w'.cell? ⟨(ad.add (i.toNat * 2)).block, (ad.add (i.toNat * 2)).off + 1, none⟩ = some u1) : AtJ w l0 (some ad) u0 u1 (rd_T38 l0 i).f0 (rd_T38 l0 i).f1 := by
 obtain ⟨ad', A0, c0, A1, c1, e, y0, y1, _⟩ := at_T38 (Kd.V_reads' hs0).2.2 i h0 h1
 injection e with e
 subst e
 have z0 := hB.cell (World.block_lt_of_cell? w _ y0)
 have z1 := hB.cell (World.block_lt_of_cell? w _ y1)
 have e : ((i.toNat : Nat) : Int) = i := Int.toNat_of_nonneg h0
 exact ⟨ad, i.toNat, rfl, by omega, z0.symm.trans hx0, z1.symm.trans hx1, by rw [e], by rw [e]⟩
theorem atJ_own {w w' : World} {base : Nat} {ok : Nat → Prop} {A : Option Addr} {c : Nat} {l0 : List S38} {u0 u1 : Value} {x0 x1 : List Int} (hS : Kd.S k38 38 w base ok (.slice A l0.length c) l0) (hJ : AtJ w l0 A u0 u1 x0 x1) (hB : Below w.heap.size w w') : Kd.R (Kd.int .i64) 3 w' base ok u0 x0 ∧ Kd.R (Kd.int .i64) 3 w' base ok u1 x1 ∧ NeRow u0 u1 := by
 obtain ⟨ad, j, rfl, hj, h0, h1, rfl, rfl⟩ := hJ
 obtain ⟨c, hcl, hM, hc⟩ := Kd.R_getA (Kd.S_R hS) z38 (j : Int) (by omega) (by omega)
 have hc' : ∀ i u, c[i]? = some u → w.cell? (ad.add (j * 2 + i)) = some u := hc
 obtain ⟨v0, v1, rfl, g0, g1, ne⟩ := k38_openN hM
 have e0 := hc' 0 v0 rfl
 have e1 := hc' 1 v1 rfl
 rw [add_field _ _ 1 (by omega)] at e1
 rw [Nat.add_zero] at e0
 obtain rfl : u0 = v0 := Option.some.inj (h0.symm.trans e0)
 obtain rfl : u1 = v1 := Option.some.inj (h1.symm.trans e1)
 exact ⟨Kd.R_mono (rD_ g0 hB) (fun _ h => h.1), Kd.R_mono (rD_ g1 hB) (fun _ h => h.1), ne⟩
set_option maxHeartbeats 8000000 in
set_option maxRecDepth 100000 in
theorem Z20.calls (k : Nat) (P0_ : Nat → Prop) (A0 : Option Addr) (c0 : Nat) (l0 : List (S38)) (r1 : List Int) (r2 : List Int) (w : World) (hs0 : Kd.V k38 38 w w.heap.size (fun k_ => P0_ k_) (.slice A0 l0.length c0) l0) (h : Z20.f k l0 = some (r1, r2)) :
  Calls Tryz.prog 56 #[.slice A0 l0.length c0, .func (.func 57) #[] #[]] w fun e w' => ∃ v0_ v1_ : Value, e = .returned (.agg #[v0_, v1_]) ∧ Kd.V (Kd.int .i64) 3 w' w.heap.size (fun k_ => (P0_ k_ ∨ w.heap.size ≤ k_)) v0_ r1 ∧ Kd.V (Kd.int .i64) 3 w' w.heap.size (fun k_ => (P0_ k_ ∨ w.heap.size ≤ k_)) v1_ r2 ∧ Below w.heap.size w w' ∧ AtJ w l0 A0 v0_ v1_ r1 r2 := by
 have HS0 := A_ hs0
 have hu38 := Tryz.underlying38
 have HO0 := A_ (show Kd.V k38 38 w w.heap.size (fun k_ => (P0_ k_ ∨ w.heap.size ≤ k_)) (.slice A0 l0.length c0) l0 from Kd.V_mono hs0 (fun k_ hk => .inl hk))
 have HB := A_ (Below.refl w.heap.size w)
 have H := h
 unfold Z20.f at H
 clear h
 by_cases c2 : (l0.length : Int) < 1
 ·rw [if_pos c2] at H
  exact absurd H (by simp)
 ·rw [if_neg c2] at H
  have c2b0 := oD_ c2
  have c2b1 : decide (l0.length < 1) = false := oD_ (by omega)
  clear c2
  have c3 := cp_ H
  replace H := ca_ H
  have c3b0 := oC_ c3
  have c3b1 : decide (0 < l0.length) = true := oC_ (by omega)
  clear c3
  have H' := A_ H
  clear H
  go_enter Tryz.func56, Tryz.ntmps56
  go_wp2_with (first | ((with_reducible refine gB_ (N := 4) rfl ?_); refine bx_ 4 #[.slice none 0 0, .slice none 0 0] 38 ?_; intro gb544 hg w4 hbox hb; replace HO0 := A_ (Kd.V_below (Kd.V_elderB (by (with_reducible repeat (first | apply Kd.V_alloc | apply Kd.V_drewN | apply Kd.V_drew)); exact HO0.out) gb544 (Nat.le_of_eq hg.symm)) hb); have BK544 := A_ hbox; have GW544 := gw_ w hg; have GE544 := GW544; replace HB := b1_ hb; clear hb hbox hg; have p545 : 0 ≤ (0 : Int) := (by omega); have q545 : 0 < (l0.length : Int) := oB_ qe_; obtain ⟨ad545, A545_0, c545_0, A545_1, c545_1, e545, hx545_0, hx545_1, hl545_0, hi545_0, hl545_1, hi545_1⟩ := at_T38 (Kd.V_reads' HO0.out).2.2 0 p545 q545; cases e545; obtain ⟨ce545, hce545, hMe545, hcc545⟩ := Kd.V_get HO0.out z38 0 p545 (by first | exact q545 | exact oB_ qe_ | (have e_ := (Kd.V_reads' HO0.out).1; omega)); obtain ⟨ua545_0, uc545_0, ua545_1, uc545_1, rfl, ul545_0, ge545_0, ul545_1, ge545_1⟩ := k38_openF hMe545; have hv545_0 := hcc545 0 _ rfl; rw [Nat.add_zero] at hv545_0; replace hv545_0 := Option.some.inj (hv545_0.symm.trans hx545_0); injection hv545_0 with hva_ hvn_ hvc_; rw [hva_] at ge545_0; rw [hvc_] at ul545_0; have HL545_0 := A_ (show Kd.V (Kd.int .i64) 3 _ w.heap.size _ _ ((rd_T38 l0 0).f0) from Kd.V_mk ul545_0 ge545_0); clear hva_ hvn_ hvc_ ge545_0 ul545_0; have hv545_1 := hcc545 1 _ rfl; rw [add_field _ _ 1 (by omega)] at hv545_1; replace hv545_1 := Option.some.inj (hv545_1.symm.trans hx545_1); injection hv545_1 with hva_ hvn_ hvc_; rw [hva_] at ge545_1; rw [hvc_] at ul545_1; have HL545_1 := A_ (show Kd.V (Kd.int .i64) 3 _ w.heap.size _ _ ((rd_T38 l0 0).f1) from Kd.V_mk ul545_1 ge545_1); clear hva_ hvn_ hvc_ ge545_1 ul545_1; clear hcc545 hce545; have HJ := A_ (atJ_of HS0.out hB_ 0 p545 q545 hx545_0 hx545_1); have qi545 : (0 < l0.length) = True := eq_true (by omega); (try rw [show ((0 : Int)).toNat = 0 from rfl] at hx545_0); (try rw [show 0 * 2 = 0 from rfl] at hx545_0); (try rw [Addr.add_zero'] at hx545_0); (try rw [show ((0 : Int)).toNat = 0 from rfl] at hx545_1); (try rw [show 0 * 2 = 0 from rfl] at hx545_1); (try rw [Addr.add_zero'] at hx545_1); have HR545_0 := A_ hi545_0; have HC545_0 := A_ hl545_0; clear hi545_0 hl545_0; have HR545_1 := A_ hi545_1; have HC545_1 := A_ hl545_1; clear hi545_1 hl545_1; replace p545 := eq_true p545; replace q545 := eq_true q545) | ((with_reducible refine gB_ (N := 5) rfl ?_); refine bx_ 5 #[.slice none 0 0, .slice none 0 0] 38 ?_; intro gb546 hg w5 hbox hb; replace HO0 := A_ (Kd.V_below (Kd.V_elderB (by (with_reducible repeat (first | apply Kd.V_alloc | apply Kd.V_drewN | apply Kd.V_drew)); exact HO0.out) gb546 (Nat.le_of_eq hg.symm)) hb); replace HL545_0 := A_ (Kd.V_below (Kd.V_elderB (by (with_reducible repeat (first | apply Kd.V_alloc | apply Kd.V_drewN | apply Kd.V_drew)); exact HL545_0.out) gb546 (Nat.le_of_eq hg.symm)) hb); replace HL545_1 := A_ (Kd.V_below (Kd.V_elderB (by (with_reducible repeat (first | apply Kd.V_alloc | apply Kd.V_drewN | apply Kd.V_drew)); exact HL545_1.out) gb546 (Nat.le_of_eq hg.symm)) hb); have BK546 := A_ hbox; have GW546 := gw_ w hg; have GE546 := GW546; replace HB := b1_ hb; have NB544_546 := gN_ BK544 hg; have NB546_544 := gP_ BK544 hg; replace BK544 := bb_ BK544 hb; clear hb hbox hg; have hnb6 := NB546_544.out; have hnc6 := NB544_546.out; obtain ⟨hcz7_0, hcz7_1, hfz7_0, hfz7_1⟩ := c2_ BK546))
  go_loopg [6] k (fun kq v6 w' => ∃ (x6_1 : Int) (x547000_1 : List Int) (x547001_1 : List Int) (u547000 : Value) (u547001 : Value), v6 = .int .i64 x6_1 ∧ Aside0 (Z20.l0 kq l0 x6_1 x547000_1 x547001_1 = some (r1, r2)) ∧ Aside0 (kq ≤ k) ∧ Aside0 (Kd.V k38 38 w' w.heap.size (fun k_ => (P0_ k_ ∨ w.heap.size ≤ k_) ∧ k_ ≠ gb544 ∧ k_ ≠ gb546) (.slice (some ad545) l0.length c0) l0) ∧ Aside0 (Kd.V (Kd.int .i64) 3 w' w.heap.size (fun k_ => (P0_ k_ ∨ w.heap.size ≤ k_) ∧ k_ ≠ gb544 ∧ k_ ≠ gb546) u547000 x547000_1) ∧ Aside0 (Kd.V (Kd.int .i64) 3 w' w.heap.size (fun k_ => (P0_ k_ ∨ w.heap.size ≤ k_) ∧ k_ ≠ gb544 ∧ k_ ≠ gb546) u547001 x547001_1) ∧ Aside0 (w'.heap[gb544]? = some (.cells #[(.slice none 0 0), (.slice none 0 0)] 38 (0, 0))) ∧ Aside0 (w'.heap[gb546]? = some (.cells #[u547000, u547001] 38 (0, 0))) ∧ Aside0 (Below w.heap.size w w') ∧ Aside0 (AtJ w l0 (some ad545) u547000 u547001 x547000_1 x547001_1))
  case atStart => exact ⟨(1), ((rd_T38 l0 0).f0), ((rd_T38 l0 0).f1), (.slice A545_0 ((rd_T38 l0 0).f0).length c545_0), (.slice A545_1 ((rd_T38 l0 0).f1).length c545_1), qc_, H', ⟨nA_ _⟩, ⟨by (with_reducible repeat (first | apply Kd.V_alloc | apply Kd.V_drewN | apply Kd.V_drew)); exact Kd.V_mono (Kd.V_far (p := ⟨gb546, 1, none⟩) (Kd.V_far (p := ⟨gb546, 0, none⟩) (Kd.V_mono HO0.out (fun k_ hk => (⟨hk, hk.2⟩ : _ ∧ k_ ≠ gb546))) (fun _ hk => hk.2) (.slice A545_0 ((rd_T38 l0 0).f0).length c545_0)) (fun _ hk => hk.2) (.slice A545_1 ((rd_T38 l0 0).f1).length c545_1)) (fun _ hk => ⟨hk.1.1.1, ⟨hk.1.1.2, hk.1.2⟩⟩)⟩, ⟨by (with_reducible repeat (first | apply Kd.V_alloc | apply Kd.V_drewN | apply Kd.V_drew)); exact Kd.V_mono (Kd.V_far (p := ⟨gb546, 1, none⟩) (Kd.V_far (p := ⟨gb546, 0, none⟩) (Kd.V_mono HL545_0.out (fun k_ hk => (⟨hk, hk.2⟩ : _ ∧ k_ ≠ gb546))) (fun _ hk => hk.2) (.slice A545_0 ((rd_T38 l0 0).f0).length c545_0)) (fun _ hk => hk.2) (.slice A545_1 ((rd_T38 l0 0).f1).length c545_1)) (fun _ hk => ⟨hk.1.1.1, ⟨hk.1.1.2, hk.1.2⟩⟩)⟩, ⟨by (with_reducible repeat (first | apply Kd.V_alloc | apply Kd.V_drewN | apply Kd.V_drew)); exact Kd.V_mono (Kd.V_far (p := ⟨gb546, 1, none⟩) (Kd.V_far (p := ⟨gb546, 0, none⟩) (Kd.V_mono HL545_1.out (fun k_ hk => (⟨hk, hk.2⟩ : _ ∧ k_ ≠ gb546))) (fun _ hk => hk.2) (.slice A545_0 ((rd_T38 l0 0).f0).length c545_0)) (fun _ hk => hk.2) (.slice A545_1 ((rd_T38 l0 0).f1).length c545_1)) (fun _ hk => ⟨hk.1.1.1, ⟨hk.1.1.2, hk.1.2⟩⟩)⟩, ⟨by (with_reducible repeat (first | refine kA_ ?_ _ | refine kB_ ?_ | refine kC_ ?_ _)); refine blk_far ?_ NB544_546.out _; (with_reducible repeat (first | refine kA_ ?_ _ | refine kB_ ?_ | refine kC_ ?_ _)); refine blk_far ?_ NB544_546.out _; (with_reducible repeat (first | refine kA_ ?_ _ | refine kB_ ?_ | refine kC_ ?_ _)); exact BK544.out⟩, ⟨qp_⟩, ⟨hB_⟩, HJ⟩
  case round =>
   clear H'
   obtain ⟨x6_1, x547000_1, x547001_1, u547000, u547001, rfl, HA, HK1, HO_0, HO_547000, HO_547001, BK544, BK546, HB, HJ⟩ := hrel
   cases gk with
   | zero => exact absurd HA.out (by simp [Z20.l0])
   | succ k1 =>
    have H := HA.out
    clear HA
    simp only [Z20.l0] at H
    by_cases c8 : x6_1 < (l0.length : Int)
    ·rw [if_pos c8] at H
     have c8b0 := oC_ c8
     clear c8
     have c9 := cp_ H
     replace H := ca_ H
     have c9b0 := oC_ c9
     clear c9
     obtain ⟨t548, A10, H⟩ := bi_ H
     by_cases c11 : t548 < 0
     ·rw [if_pos c11] at H
      have c11b0 := oC_ c11
      clear c11
      have H' := A_ H
      clear H
      try go_wp2
      replace HO_0 := A_ (Kd.V_drew HO_0.out)
      replace HO_547000 := A_ (Kd.V_drew HO_547000.out)
      replace HO_547001 := A_ (Kd.V_drew HO_547001.out)
      replace BK544 := A_ (kB_ BK544.out)
      replace BK546 := A_ (kB_ BK546.out)
      replace HB := A_ (bC_ HB.out)
      have p547 : 0 ≤ (x6_1 : Int) := oB_ qe_
      have q547 : x6_1 < (l0.length : Int) := oB_ qe_
      obtain ⟨ad547, A547_0, c547_0, A547_1, c547_1, e547, hx547_0, hx547_1, hl547_0, hi547_0, hl547_1, hi547_1⟩ := at_T38 (Kd.V_reads' HO_0.out).2.2 x6_1 p547 q547
      obtain rfl : ad545 = ad547 := (by injection e547)
      obtain ⟨ce547, hce547, hMe547, hcc547⟩ := Kd.V_get HO_0.out z38 x6_1 p547 (by first | exact q547 | exact oB_ qe_ | (have e_ := (Kd.V_reads' HO_0.out).1; omega))
      obtain ⟨ua547_0, uc547_0, ua547_1, uc547_1, rfl, ul547_0, ge547_0, ul547_1, ge547_1⟩ := k38_openF hMe547
      have hv547_0 := hcc547 0 _ rfl
      rw [Nat.add_zero] at hv547_0
      replace hv547_0 := Option.some.inj (hv547_0.symm.trans hx547_0)
      injection hv547_0 with hva_ hvn_ hvc_
      rw [hva_] at ge547_0
      rw [hvc_] at ul547_0
      have HL547_0 := A_ (show Kd.V (Kd.int .i64) 3 _ w.heap.size _ _ ((rd_T38 l0 x6_1).f0) from Kd.V_mk ul547_0 ge547_0)
      clear hva_ hvn_ hvc_ ge547_0 ul547_0
      have hv547_1 := hcc547 1 _ rfl
      rw [add_field _ _ 1 (by omega)] at hv547_1
      replace hv547_1 := Option.some.inj (hv547_1.symm.trans hx547_1)
      injection hv547_1 with hva_ hvn_ hvc_
      rw [hva_] at ge547_1
      rw [hvc_] at ul547_1
      have HL547_1 := A_ (show Kd.V (Kd.int .i64) 3 _ w.heap.size _ _ ((rd_T38 l0 x6_1).f1) from Kd.V_mk ul547_1 ge547_1)
      clear hva_ hvn_ hvc_ ge547_1 ul547_1
      clear hcc547 hce547
      have HJ547 := A_ (atJ_of HS0.out hB_ x6_1 p547 q547 hx547_0 hx547_1)
      have HR547_0 := A_ hi547_0
      have HC547_0 := A_ hl547_0
      clear hi547_0 hl547_0
      have HR547_1 := A_ hi547_1
      have HC547_1 := A_ hl547_1
      clear hi547_1 hl547_1
      replace p547 := eq_true p547
      replace q547 := eq_true q547
      obtain ⟨Ao13, co13, eo13⟩ := Kd.V_slice HO_547000.out
      (first | subst eo13 | (injection eo13 with f1_ f2_ f3_; have f4_ := f1_.symm; have f5_ := f3_.symm; clear f1_ f2_ f3_; subst f4_; subst f5_))
      obtain ⟨Ao14, co14, eo14⟩ := Kd.V_slice HO_547001.out
      (first | subst eo14 | (injection eo14 with f1_ f2_ f3_; have f4_ := f1_.symm; have f5_ := f3_.symm; clear f1_ f2_ f3_; subst f4_; subst f5_))
      refine start_ (n := 8) (S := fun w' => w'.cell? ⟨gb546, 0, none⟩ = some (.slice Ao13 x547000_1.length co13) ∧ w'.cell? ⟨gb546, 1, none⟩ = some (.slice Ao14 x547001_1.length co14) ∧ w'.cell? (ad545.add ((x6_1).toNat * 2)) = some (.slice A547_0 ((rd_T38 l0 x6_1).f0).length c547_0) ∧ w'.cell? ⟨(ad545.add ((x6_1).toNat * 2)).block, (ad545.add ((x6_1).toNat * 2)).off + 1, none⟩ = some (.slice A547_1 ((rd_T38 l0 x6_1).f1).length c547_1)) (ds := []) (bl_ 8 0) (by kernel_rfl) rfl (by kernel_rfl) ⟨cz0_ BK546, cz1_ BK546, hx547_0, hx547_1⟩ (fun hHeld => ?_); refine with_tabW Z20.tab7 Z20.bits7 (fun HT_ HW_ => ?_)
      generalize wr.drew = w12 at HO_0 HO_547000 HO_547001 BK544 BK546 HB HL547_0 HL547_1 HR547_0 HR547_1 hx547_0 hx547_1 hHeld ⊢
      refine pu_ 0 (some 20) (bl_ 8 1) HT_ ?_
      refine pu_ 1 (some 21) (bl_ 8 3) HT_ ?_
      refine pu_ 2 (some 22) (bl_ 8 7) HT_ ?_
      refine pu_ 3 (some 23) (bl_ 8 15) HT_ ?_
      refine ta_ 4 (some 24) (bl_ 8 31) HT_ HW_ hHeld ?_
      refine ta_ 5 (some 25) (bl_ 8 63) HT_ HW_ hHeld ?_
      refine on_ 6 (some 26) (bl_ 8 127) HT_ (fun K hK => ?_)
      refine goesF_ Tryz.func57 (by kernel_rfl) rfl #[.agg #[.slice A547_0 ((rd_T38 l0 x6_1).f0).length c547_0, .slice A547_1 ((rd_T38 l0 x6_1).f1).length c547_1], .agg #[.slice Ao13 x547000_1.length co13, .slice Ao14 x547001_1.length co14]] (by rfl) rfl rfl qa_ ?_
      with_reducible refine (Z4.calls k1 _ _ ((rd_T38 l0 x6_1).f0) _ _ ((rd_T38 l0 x6_1).f1) _ _ x547000_1 _ _ x547001_1 t548 _ ?side1 ?side2 ?side3 ?side4 ?side5 ?side6 ?side7 ?side8 A10.out).mono ?_
      (case side1 => repeat (first | exact (by repeat (first | (with_reducible exact HR547_0.out) | (with_reducible refine cA_ ?_ _) | (with_reducible refine cB_ ?_ _) | (with_reducible refine cC_ ?_) | exact HR547_0.out)) | (with_reducible first | refine cA_ ?_ _ | refine cB_ ?_ _ | refine cC_ ?_)))
      (case side2 => exact HC547_0.out)
      (case side3 => repeat (first | exact (by repeat (first | (with_reducible exact HR547_1.out) | (with_reducible refine cA_ ?_ _) | (with_reducible refine cB_ ?_ _) | (with_reducible refine cC_ ?_) | exact HR547_1.out)) | (with_reducible first | refine cA_ ?_ _ | refine cB_ ?_ _ | refine cC_ ?_)))
      (case side4 => exact HC547_1.out)
      (case side5 => exact cw_ ((Kd.V_reads' HO_547000.out).2.2))
      (case side6 => exact (Kd.V_reads' HO_547000.out).2.1)
      (case side7 => exact cw_ ((Kd.V_reads' HO_547001.out).2.2))
      (case side8 => exact (Kd.V_reads' HO_547001.out).2.1)
      rintro e w15 ⟨rfl, hb⟩
      have HS2_ := (hb.cell (World.block_lt_of_cell? _ _ (hHeld.2.2.1))).trans (hHeld.2.2.1)
      have HS3_ := (hb.cell (World.block_lt_of_cell? _ _ (hHeld.2.2.2))).trans (hHeld.2.2.2)
      refine ⟨_, rfl, ?_⟩
      replace HO_0 := A_ (Kd.V_below (by (with_reducible repeat (first | apply Kd.V_alloc | apply Kd.V_drewN | apply Kd.V_drew)); exact HO_0.out) hb)
      replace HO_547000 := A_ (Kd.V_below (by (with_reducible repeat (first | apply Kd.V_alloc | apply Kd.V_drewN | apply Kd.V_drew)); exact HO_547000.out) hb)
      replace HO_547001 := A_ (Kd.V_below (by (with_reducible repeat (first | apply Kd.V_alloc | apply Kd.V_drewN | apply Kd.V_drew)); exact HO_547001.out) hb)
      replace HL547_0 := A_ (Kd.V_below (by (with_reducible repeat (first | apply Kd.V_alloc | apply Kd.V_drewN | apply Kd.V_drew)); exact HL547_0.out) hb)
      replace HL547_1 := A_ (Kd.V_below (by (with_reducible repeat (first | apply Kd.V_alloc | apply Kd.V_drewN | apply Kd.V_drew)); exact HL547_1.out) hb)
      replace BK544 := bb_ BK544 hb
      replace BK546 := bb_ BK546 hb
      replace HR547_0 := A_ (cD_ (by repeat (first | (with_reducible exact HR547_0.out) | (with_reducible refine cA_ ?_ _) | (with_reducible refine cB_ ?_ _) | (with_reducible refine cC_ ?_) | exact HR547_0.out)) hb)
      replace HR547_1 := A_ (cD_ (by repeat (first | (with_reducible exact HR547_1.out) | (with_reducible refine cA_ ?_ _) | (with_reducible refine cB_ ?_ _) | (with_reducible refine cC_ ?_) | exact HR547_1.out)) hb)
      replace HB := b1_ hb
      clear hb
      refine hK.out _ _ ⟨cz0_ BK546, cz1_ BK546, HS2_, HS3_⟩ (fun hHeld => ?_)
      clear hK K
      refine no_ (some 26) ?_
      refine pu_ 7 (some 27) (bl_ 8 255) HT_ ?_
      refine done_ (done_of HT_.out (by kernel_rfl)) ?_
      have p549 : 0 ≤ (x6_1 : Int) := oB_ qe_
      have q549 : x6_1 < (l0.length : Int) := oB_ qe_
      obtain ⟨ad549, A549_0, c549_0, A549_1, c549_1, e549, hx549_0, hx549_1, hl549_0, hi549_0, hl549_1, hi549_1⟩ := at_T38 (Kd.V_reads' HO_0.out).2.2 x6_1 p549 q549
      obtain rfl : ad545 = ad549 := (by injection e549)
      have e0_ := Option.some.inj (hx549_0.symm.trans hHeld.2.2.1)
      injection e0_ with f1_ f2_ f3_
      have e1_ := Option.some.inj (hx549_1.symm.trans hHeld.2.2.2)
      injection e1_ with f4_ f5_ f6_
      subst f1_ f3_ f4_ f6_
      clear f2_ f5_
      obtain ⟨ce549, hce549, hMe549, hcc549⟩ := Kd.V_get HO_0.out z38 x6_1 p549 (by first | exact q549 | exact oB_ qe_ | (have e_ := (Kd.V_reads' HO_0.out).1; omega))
      obtain ⟨ua549_0, uc549_0, ua549_1, uc549_1, rfl, ul549_0, ge549_0, ul549_1, ge549_1⟩ := k38_openF hMe549
      have hv549_0 := hcc549 0 _ rfl
      rw [Nat.add_zero] at hv549_0
      replace hv549_0 := Option.some.inj (hv549_0.symm.trans hx549_0)
      injection hv549_0 with hva_ hvn_ hvc_
      rw [hva_] at ge549_0
      rw [hvc_] at ul549_0
      have HL549_0 := A_ (show Kd.V (Kd.int .i64) 3 _ w.heap.size _ _ ((rd_T38 l0 x6_1).f0) from Kd.V_mk ul549_0 ge549_0)
      clear hva_ hvn_ hvc_ ge549_0 ul549_0
      have hv549_1 := hcc549 1 _ rfl
      rw [add_field _ _ 1 (by omega)] at hv549_1
      replace hv549_1 := Option.some.inj (hv549_1.symm.trans hx549_1)
      injection hv549_1 with hva_ hvn_ hvc_
      rw [hva_] at ge549_1
      rw [hvc_] at ul549_1
      have HL549_1 := A_ (show Kd.V (Kd.int .i64) 3 _ w.heap.size _ _ ((rd_T38 l0 x6_1).f1) from Kd.V_mk ul549_1 ge549_1)
      clear hva_ hvn_ hvc_ ge549_1 ul549_1
      clear hcc549 hce549
      have HJ549 := A_ (atJ_of HS0.out hB_ x6_1 p549 q549 hx549_0 hx549_1)
      have HR549_0 := A_ hi549_0
      have HC549_0 := A_ hl549_0
      clear hi549_0 hl549_0
      have HR549_1 := A_ hi549_1
      have HC549_1 := A_ hl549_1
      clear hi549_1 hl549_1
      replace p549 := eq_true p549
      replace q549 := eq_true q549
      have hnb16 := NB546_544.out
      have hnc16 := NB544_546.out
      obtain ⟨hcz17_0, hcz17_1, hfz17_0, hfz17_1⟩ := c2_ BK546
      try go_wp2
      go_roundg k1
      case measure => have := HK1.out; omega
      case rel => exact ⟨(wrap64 (x6_1 + 1)), ((rd_T38 l0 x6_1).f0), ((rd_T38 l0 x6_1).f1), (.slice A549_0 ((rd_T38 l0 x6_1).f0).length c549_0), (.slice A549_1 ((rd_T38 l0 x6_1).f1).length c549_1), qc_, H', ⟨by have := HK1.out; omega⟩, ⟨by (with_reducible repeat (first | apply Kd.V_alloc | apply Kd.V_drewN | apply Kd.V_drew)); exact Kd.V_mono (Kd.V_far (p := ⟨gb546, 1, none⟩) (Kd.V_far (p := ⟨gb546, 0, none⟩) (Kd.V_mono HO_0.out (fun k_ hk => (⟨hk, hk.2.2⟩ : _ ∧ k_ ≠ gb546))) (fun _ hk => hk.2) (.slice A549_0 ((rd_T38 l0 x6_1).f0).length c549_0)) (fun _ hk => hk.2) (.slice A549_1 ((rd_T38 l0 x6_1).f1).length c549_1)) (fun _ hk => ⟨hk.1.1, ⟨hk.1.2.1, hk.1.2.2⟩⟩)⟩, ⟨by (with_reducible repeat (first | apply Kd.V_alloc | apply Kd.V_drewN | apply Kd.V_drew)); exact Kd.V_mono (Kd.V_far (p := ⟨gb546, 1, none⟩) (Kd.V_far (p := ⟨gb546, 0, none⟩) (Kd.V_mono HL549_0.out (fun k_ hk => (⟨hk, hk.2.2⟩ : _ ∧ k_ ≠ gb546))) (fun _ hk => hk.2) (.slice A549_0 ((rd_T38 l0 x6_1).f0).length c549_0)) (fun _ hk => hk.2) (.slice A549_1 ((rd_T38 l0 x6_1).f1).length c549_1)) (fun _ hk => ⟨hk.1.1, ⟨hk.1.2.1, hk.1.2.2⟩⟩)⟩, ⟨by (with_reducible repeat (first | apply Kd.V_alloc | apply Kd.V_drewN | apply Kd.V_drew)); exact Kd.V_mono (Kd.V_far (p := ⟨gb546, 1, none⟩) (Kd.V_far (p := ⟨gb546, 0, none⟩) (Kd.V_mono HL549_1.out (fun k_ hk => (⟨hk, hk.2.2⟩ : _ ∧ k_ ≠ gb546))) (fun _ hk => hk.2) (.slice A549_0 ((rd_T38 l0 x6_1).f0).length c549_0)) (fun _ hk => hk.2) (.slice A549_1 ((rd_T38 l0 x6_1).f1).length c549_1)) (fun _ hk => ⟨hk.1.1, ⟨hk.1.2.1, hk.1.2.2⟩⟩)⟩, ⟨by (with_reducible repeat (first | refine kA_ ?_ _ | refine kB_ ?_ | refine kC_ ?_ _)); refine blk_far ?_ NB544_546.out _; (with_reducible repeat (first | refine kA_ ?_ _ | refine kB_ ?_ | refine kC_ ?_ _)); refine blk_far ?_ NB544_546.out _; (with_reducible repeat (first | refine kA_ ?_ _ | refine kB_ ?_ | refine kC_ ?_ _)); exact BK544.out⟩, ⟨qp_⟩, ⟨hB_⟩, HJ549⟩
     ·rw [if_neg c11] at H
      have c11b0 := oD_ c11
      clear c11
      have H' := A_ H
      clear H
      try go_wp2
      replace HO_0 := A_ (Kd.V_drew HO_0.out)
      replace HO_547000 := A_ (Kd.V_drew HO_547000.out)
      replace HO_547001 := A_ (Kd.V_drew HO_547001.out)
      replace BK544 := A_ (kB_ BK544.out)
      replace BK546 := A_ (kB_ BK546.out)
      replace HB := A_ (bC_ HB.out)
      have p547 : 0 ≤ (x6_1 : Int) := oB_ qe_
      have q547 : x6_1 < (l0.length : Int) := oB_ qe_
      obtain ⟨ad547, A547_0, c547_0, A547_1, c547_1, e547, hx547_0, hx547_1, hl547_0, hi547_0, hl547_1, hi547_1⟩ := at_T38 (Kd.V_reads' HO_0.out).2.2 x6_1 p547 q547
      obtain rfl : ad545 = ad547 := (by injection e547)
      obtain ⟨ce547, hce547, hMe547, hcc547⟩ := Kd.V_get HO_0.out z38 x6_1 p547 (by first | exact q547 | exact oB_ qe_ | (have e_ := (Kd.V_reads' HO_0.out).1; omega))
      obtain ⟨ua547_0, uc547_0, ua547_1, uc547_1, rfl, ul547_0, ge547_0, ul547_1, ge547_1⟩ := k38_openF hMe547
      have hv547_0 := hcc547 0 _ rfl
      rw [Nat.add_zero] at hv547_0
      replace hv547_0 := Option.some.inj (hv547_0.symm.trans hx547_0)
      injection hv547_0 with hva_ hvn_ hvc_
      rw [hva_] at ge547_0
      rw [hvc_] at ul547_0
      have HL547_0 := A_ (show Kd.V (Kd.int .i64) 3 _ w.heap.size _ _ ((rd_T38 l0 x6_1).f0) from Kd.V_mk ul547_0 ge547_0)
      clear hva_ hvn_ hvc_ ge547_0 ul547_0
      have hv547_1 := hcc547 1 _ rfl
      rw [add_field _ _ 1 (by omega)] at hv547_1
      replace hv547_1 := Option.some.inj (hv547_1.symm.trans hx547_1)
      injection hv547_1 with hva_ hvn_ hvc_
      rw [hva_] at ge547_1
      rw [hvc_] at ul547_1
      have HL547_1 := A_ (show Kd.V (Kd.int .i64) 3 _ w.heap.size _ _ ((rd_T38 l0 x6_1).f1) from Kd.V_mk ul547_1 ge547_1)
      clear hva_ hvn_ hvc_ ge547_1 ul547_1
      clear hcc547 hce547
      have HJ547 := A_ (atJ_of HS0.out hB_ x6_1 p547 q547 hx547_0 hx547_1)
      have HR547_0 := A_ hi547_0
      have HC547_0 := A_ hl547_0
      clear hi547_0 hl547_0
      have HR547_1 := A_ hi547_1
      have HC547_1 := A_ hl547_1
      clear hi547_1 hl547_1
      replace p547 := eq_true p547
      replace q547 := eq_true q547
      obtain ⟨Ao19, co19, eo19⟩ := Kd.V_slice HO_547000.out
      (first | subst eo19 | (injection eo19 with f1_ f2_ f3_; have f4_ := f1_.symm; have f5_ := f3_.symm; clear f1_ f2_ f3_; subst f4_; subst f5_))
      obtain ⟨Ao20, co20, eo20⟩ := Kd.V_slice HO_547001.out
      (first | subst eo20 | (injection eo20 with f1_ f2_ f3_; have f4_ := f1_.symm; have f5_ := f3_.symm; clear f1_ f2_ f3_; subst f4_; subst f5_))
      refine start_ (n := 8) (S := fun w' => w'.cell? ⟨gb546, 0, none⟩ = some (.slice Ao19 x547000_1.length co19) ∧ w'.cell? ⟨gb546, 1, none⟩ = some (.slice Ao20 x547001_1.length co20) ∧ w'.cell? (ad545.add ((x6_1).toNat * 2)) = some (.slice A547_0 ((rd_T38 l0 x6_1).f0).length c547_0) ∧ w'.cell? ⟨(ad545.add ((x6_1).toNat * 2)).block, (ad545.add ((x6_1).toNat * 2)).off + 1, none⟩ = some (.slice A547_1 ((rd_T38 l0 x6_1).f1).length c547_1)) (ds := []) (bl_ 8 0) (by kernel_rfl) rfl (by kernel_rfl) ⟨cz0_ BK546, cz1_ BK546, hx547_0, hx547_1⟩ (fun hHeld => ?_); refine with_tabW Z20.tab7 Z20.bits7 (fun HT_ HW_ => ?_)
      generalize wr.drew = w18 at HO_0 HO_547000 HO_547001 BK544 BK546 HB HL547_0 HL547_1 HR547_0 HR547_1 hx547_0 hx547_1 hHeld ⊢
      refine pu_ 0 (some 20) (bl_ 8 1) HT_ ?_
      refine pu_ 1 (some 21) (bl_ 8 3) HT_ ?_
      refine pu_ 2 (some 22) (bl_ 8 7) HT_ ?_
      refine pu_ 3 (some 23) (bl_ 8 15) HT_ ?_
      refine ta_ 4 (some 24) (bl_ 8 31) HT_ HW_ hHeld ?_
      refine ta_ 5 (some 25) (bl_ 8 63) HT_ HW_ hHeld ?_
      refine on_ 6 (some 26) (bl_ 8 127) HT_ (fun K hK => ?_)
      refine goesF_ Tryz.func57 (by kernel_rfl) rfl #[.agg #[.slice A547_0 ((rd_T38 l0 x6_1).f0).length c547_0, .slice A547_1 ((rd_T38 l0 x6_1).f1).length c547_1], .agg #[.slice Ao19 x547000_1.length co19, .slice Ao20 x547001_1.length co20]] (by rfl) rfl rfl qa_ ?_
      with_reducible refine (Z4.calls k1 _ _ ((rd_T38 l0 x6_1).f0) _ _ ((rd_T38 l0 x6_1).f1) _ _ x547000_1 _ _ x547001_1 t548 _ ?side1 ?side2 ?side3 ?side4 ?side5 ?side6 ?side7 ?side8 A10.out).mono ?_
      (case side1 => repeat (first | exact (by repeat (first | (with_reducible exact HR547_0.out) | (with_reducible refine cA_ ?_ _) | (with_reducible refine cB_ ?_ _) | (with_reducible refine cC_ ?_) | exact HR547_0.out)) | (with_reducible first | refine cA_ ?_ _ | refine cB_ ?_ _ | refine cC_ ?_)))
      (case side2 => exact HC547_0.out)
      (case side3 => repeat (first | exact (by repeat (first | (with_reducible exact HR547_1.out) | (with_reducible refine cA_ ?_ _) | (with_reducible refine cB_ ?_ _) | (with_reducible refine cC_ ?_) | exact HR547_1.out)) | (with_reducible first | refine cA_ ?_ _ | refine cB_ ?_ _ | refine cC_ ?_)))
      (case side4 => exact HC547_1.out)
      (case side5 => exact cw_ ((Kd.V_reads' HO_547000.out).2.2))
      (case side6 => exact (Kd.V_reads' HO_547000.out).2.1)
      (case side7 => exact cw_ ((Kd.V_reads' HO_547001.out).2.2))
      (case side8 => exact (Kd.V_reads' HO_547001.out).2.1)
      rintro e w21 ⟨rfl, hb⟩
      have HS2_ := (hb.cell (World.block_lt_of_cell? _ _ (hHeld.2.2.1))).trans (hHeld.2.2.1)
      have HS3_ := (hb.cell (World.block_lt_of_cell? _ _ (hHeld.2.2.2))).trans (hHeld.2.2.2)
      refine ⟨_, rfl, ?_⟩
      replace HO_0 := A_ (Kd.V_below (by (with_reducible repeat (first | apply Kd.V_alloc | apply Kd.V_drewN | apply Kd.V_drew)); exact HO_0.out) hb)
      replace HO_547000 := A_ (Kd.V_below (by (with_reducible repeat (first | apply Kd.V_alloc | apply Kd.V_drewN | apply Kd.V_drew)); exact HO_547000.out) hb)
      replace HO_547001 := A_ (Kd.V_below (by (with_reducible repeat (first | apply Kd.V_alloc | apply Kd.V_drewN | apply Kd.V_drew)); exact HO_547001.out) hb)
      replace HL547_0 := A_ (Kd.V_below (by (with_reducible repeat (first | apply Kd.V_alloc | apply Kd.V_drewN | apply Kd.V_drew)); exact HL547_0.out) hb)
      replace HL547_1 := A_ (Kd.V_below (by (with_reducible repeat (first | apply Kd.V_alloc | apply Kd.V_drewN | apply Kd.V_drew)); exact HL547_1.out) hb)
      replace BK544 := bb_ BK544 hb
      replace BK546 := bb_ BK546 hb
      replace HR547_0 := A_ (cD_ (by repeat (first | (with_reducible exact HR547_0.out) | (with_reducible refine cA_ ?_ _) | (with_reducible refine cB_ ?_ _) | (with_reducible refine cC_ ?_) | exact HR547_0.out)) hb)
      replace HR547_1 := A_ (cD_ (by repeat (first | (with_reducible exact HR547_1.out) | (with_reducible refine cA_ ?_ _) | (with_reducible refine cB_ ?_ _) | (with_reducible refine cC_ ?_) | exact HR547_1.out)) hb)
      replace HB := b1_ hb
      clear hb
      refine hK.out _ _ ⟨cz0_ BK546, cz1_ BK546, HS2_, HS3_⟩ (fun hHeld => ?_)
      clear hK K
      refine no_ (some 26) ?_
      refine pu_ 7 (some 27) (bl_ 8 255) HT_ ?_
      refine done_ (done_of HT_.out (by kernel_rfl)) ?_
      try go_wp2
      go_roundg k1
      case measure => have := HK1.out; omega
      case rel => exact ⟨(wrap64 (x6_1 + 1)), (x547000_1), (x547001_1), (.slice Ao19 x547000_1.length co19), (.slice Ao20 x547001_1.length co20), qc_, H', ⟨by have := HK1.out; omega⟩, ⟨by (with_reducible repeat (first | apply Kd.V_alloc | apply Kd.V_drewN | apply Kd.V_drew)); exact HO_0.out⟩, ⟨by (with_reducible repeat (first | apply Kd.V_alloc | apply Kd.V_drewN | apply Kd.V_drew)); exact HO_547000.out⟩, ⟨by (with_reducible repeat (first | apply Kd.V_alloc | apply Kd.V_drewN | apply Kd.V_drew)); exact HO_547001.out⟩, ⟨(kk_ BK544)⟩, ⟨(kk_ BK546)⟩, ⟨hB_⟩, HJ⟩
    ·rw [if_neg c8] at H
     have c8b0 := oD_ c8
     clear c8
     simp only [Option.some.injEq, Prod.mk.injEq] at H
     obtain ⟨rfl, rfl⟩ := H
     have hnb22 := NB546_544.out
     have hnc22 := NB544_546.out
     obtain ⟨hcz23_0, hcz23_1, hfz23_0, hfz23_1⟩ := c2_ BK546
     obtain ⟨Ao24, co24, eo24⟩ := Kd.V_slice HO_547000.out
     subst eo24
     obtain ⟨hcz25_0, hcz25_1, hfz25_0, hfz25_1⟩ := c2_ BK544
     obtain ⟨Ao26, co26, eo26⟩ := Kd.V_slice HO_547001.out
     subst eo26
     go_wp2
     refine bodyPost_ret (results_cell_row rfl _ _ gb544 38 #[.slice Ao24 x547000_1.length co24, .slice Ao26 x547001_1.length co26] (0, 0) _ rfl qp_ Tryz.underlying38 rfl (by kernel_rfl)) rfl ?_
     exact ⟨_, _, qb_, by (with_reducible repeat (first | apply Kd.V_alloc | apply Kd.V_drewN | apply Kd.V_drew)); exact Kd.V_mono (Kd.V_far (p := ⟨gb544, 1, none⟩) (Kd.V_far (p := ⟨gb544, 0, none⟩) (Kd.V_mono HO_547000.out (fun k_ hk => (⟨hk, hk.2.1⟩ : _ ∧ k_ ≠ gb544))) (fun _ hk => hk.2) (.slice Ao24 x547000_1.length co24)) (fun _ hk => hk.2) (.slice Ao26 x547001_1.length co26)) (fun _ hk => hk.1.1), by (with_reducible repeat (first | apply Kd.V_alloc | apply Kd.V_drewN | apply Kd.V_drew)); exact Kd.V_mono (Kd.V_far (p := ⟨gb544, 1, none⟩) (Kd.V_far (p := ⟨gb544, 0, none⟩) (Kd.V_mono HO_547001.out (fun k_ hk => (⟨hk, hk.2.1⟩ : _ ∧ k_ ≠ gb544))) (fun _ hk => hk.2) (.slice Ao24 x547000_1.length co24)) (fun _ hk => hk.2) (.slice Ao26 x547001_1.length co26)) (fun _ hk => hk.1.1), hB_, HJ.out⟩
def Z57.f (k : Nat) (l0_0 : List Int) (l0_1 : List Int) : Option (List Int × List Int × Bool) := (Z30.f k l0_0 l0_1).bind fun t552 => (if (t552.length : Int) = 0 then (some (([] : List Int), ([] : List Int), false)) else ((Z20.f k t552).bind fun bt555 => (some (bt555.1, bt555.2, true))))
theorem Z57.mono : ∀ a0 a1 k, LeO (Z57.f k a0 a1) (Z57.f (k + 1) a0 a1) := by
 intro a0 a1 k
 unfold Z57.f
 repeat' first|exact Z20.mono _ _|exact Z30.mono _ _ _|exact lo_|refine LeO.ite ?_ ?_|refine LeO.bind ?_ (fun _ => ?_)
set_option maxHeartbeats 8000000 in
set_option maxRecDepth 100000 in
theorem Z57.calls (k : Nat) (A0_0 : Option Addr) (c0_0 : Nat) (l0_0 : List Int) (A0_1 : Option Addr) (c0_1 : Nat) (l0_1 : List Int) (r1 : List Int) (r2 : List Int) (r3 : Bool) (w : World) (hr0_0 : Kd.C (Kd.int .i64) w A0_0 l0_0.length l0_0) (hc0_0 : l0_0.length ≤ c0_0) (hr0_1 : Kd.C (Kd.int .i64) w A0_1 l0_1.length l0_1) (hc0_1 : l0_1.length ≤ c0_1) (h : Z57.f k l0_0 l0_1 = some (r1, r2, r3)) :
  Calls Tryz.prog 38 #[.agg #[.slice A0_0 l0_0.length c0_0, .slice A0_1 l0_1.length c0_1]] w fun e w' => ∃ v0_ v1_ : Value, e = .returned (.tuple #[.agg #[v0_, v1_], .bool r3]) ∧ Kd.R (Kd.int .i64) 3 w' w.heap.size (fun k_ => some k_ ≠ (v1_ : Value).ownBlock) v0_ r1 ∧ Kd.R (Kd.int .i64) 3 w' w.heap.size (fun k_ => some k_ ≠ (v0_ : Value).ownBlock) v1_ r2 ∧ Below w.heap.size w w' := by
 have hu38 := Tryz.underlying38
 have HR0_0 := A_ hr0_0
 have HC0_0 := A_ hc0_0
 clear hr0_0 hc0_0
 have HR0_1 := A_ hr0_1
 have HC0_1 := A_ hc0_1
 clear hr0_1 hc0_1
 have HB := A_ (Below.refl w.heap.size w)
 have H := h
 unfold Z57.f at H
 clear h
 obtain ⟨t552, A2, H⟩ := bi_ H
 by_cases c3 : (t552.length : Int) = 0
 ·rw [if_pos c3] at H
  have c3b0 : ((t552.length : Int) == 0) = true := beq_iff_eq.mpr c3
  have c3b1 : ((t552.length : Int) != 0) = false := bne_eq_false_iff_eq.mpr c3
  clear c3
  simp only [Option.some.injEq, Prod.mk.injEq] at H
  obtain ⟨rfl, rfl, rfl⟩ := H
  go_enter Tryz.func38, Tryz.ntmps38
  go_wp2_with (first | ((with_reducible refine gB_ (N := 1) rfl ?_); refine bx_ 1 #[.slice A0_0 l0_0.length c0_0, .slice A0_1 l0_1.length c0_1] 38 ?_; intro gb550 hg w4 hbox hb; have BK550 := A_ hbox; have GW550 := gw_ w hg; have GE550 := GW550; replace HB := b1_ hb; clear hb hbox hg) | ((with_reducible refine gB_ (N := 2) rfl ?_); refine bx_ 2 #[.slice none 0 0, .slice none 0 0] 38 ?_; intro gb551 hg w5 hbox hb; have BK551 := A_ hbox; have GW551 := gw_ w hg; have GE551 := GW551; replace HB := b1_ hb; have NB550_551 := gN_ BK550 hg; have NB551_550 := gP_ BK550 hg; replace BK550 := bb_ BK550 hb; clear hb hbox hg; have hnb6 := NB550_551.out; have hnc6 := NB551_550.out; obtain ⟨hcz7_0, hcz7_1, hfz7_0, hfz7_1⟩ := c2_ BK550) | ((with_reducible refine gA_ (f := 55) rfl ?_); refine gL_ (some 6) Tryz.func55 #[.agg #[.slice A0_0 l0_0.length c0_0, .slice A0_1 l0_1.length c0_1]] rfl qa_ ?_; (with_reducible refine (Z30.calls k _ _ l0_0 _ _ l0_1 t552 _ (cb_ HR0_0) HC0_0.out (cb_ HR0_1) HC0_1.out A2.out).mono ?_); rintro e w8 ⟨v553, rfl, ho0, hb⟩; refine ⟨_, rfl, ?_⟩; have HO554 := A_ (Kd.S_lower (Kd.S_newB (Kd.S_newB (Kd.S_newM (M := fun k_ => (w.heap.size ≤ k_)) ho0 (bF_ hB_) (fun k_ h_ => h_)) (kk_ BK550)) (kk_ BK551)) (bF_ hB_)); replace BK550 := bb_ BK550 hb; replace BK551 := bb_ BK551 hb; replace HB := b1_ hb; clear hb ho0; obtain ⟨Ao9, co9, eo9⟩ := Kd.S_slice HO554.out; subst eo9; obtain ⟨hcz10_0, hcz10_1, hfz10_0, hfz10_1⟩ := c2_ BK551))
  refine bodyPost_ret (results_ct rfl _ _ gb551 38 #[.slice none 0 0, .slice none 0 0] (0, 0) _ rfl qp_ Tryz.underlying38 rfl (by kernel_rfl)) rfl ?_
  exact ⟨_, _, qb_, (Kd.R_nil _ _ _ _ _), (Kd.R_nil _ _ _ _ _), hB_⟩
 ·rw [if_neg c3] at H
  have c3b0 : ((t552.length : Int) == 0) = false := beq_eq_false_iff_ne.mpr c3
  have c3b1 : ((t552.length : Int) != 0) = true := bne_iff_ne.mpr c3
  have c3b2 : ¬ (t552 = []) := fun h_ => c3 (by rw [h_]; rfl)
  obtain ⟨⟨t555, t558⟩, A11, H⟩ := bi_ H
  try dsimp only at H
  simp only [Option.some.injEq, Prod.mk.injEq] at H
  obtain ⟨rfl, rfl, rfl⟩ := H
  go_enter Tryz.func38, Tryz.ntmps38
  go_wp2_with (first | ((with_reducible refine gB_ (N := 1) rfl ?_); refine bx_ 1 #[.slice A0_0 l0_0.length c0_0, .slice A0_1 l0_1.length c0_1] 38 ?_; intro gb550 hg w12 hbox hb; have BK550 := A_ hbox; have GW550 := gw_ w hg; have GE550 := GW550; replace HB := b1_ hb; clear hb hbox hg) | ((with_reducible refine gB_ (N := 2) rfl ?_); refine bx_ 2 #[.slice none 0 0, .slice none 0 0] 38 ?_; intro gb551 hg w13 hbox hb; have BK551 := A_ hbox; have GW551 := gw_ w hg; have GE551 := GW551; replace HB := b1_ hb; have NB550_551 := gN_ BK550 hg; have NB551_550 := gP_ BK550 hg; replace BK550 := bb_ BK550 hb; clear hb hbox hg; have hnb14 := NB550_551.out; have hnc14 := NB551_550.out; obtain ⟨hcz15_0, hcz15_1, hfz15_0, hfz15_1⟩ := c2_ BK550) | ((with_reducible refine gA_ (f := 55) rfl ?_); refine gL_ (some 6) Tryz.func55 #[.agg #[.slice A0_0 l0_0.length c0_0, .slice A0_1 l0_1.length c0_1]] rfl qa_ ?_; (with_reducible refine (Z30.calls k _ _ l0_0 _ _ l0_1 t552 _ (cb_ HR0_0) HC0_0.out (cb_ HR0_1) HC0_1.out A2.out).mono ?_); rintro e w16 ⟨v553, rfl, ho0, hb⟩; refine ⟨_, rfl, ?_⟩; have HO554 := A_ (Kd.S_lower (Kd.S_newB (Kd.S_newB (Kd.S_newM (M := fun k_ => (w.heap.size ≤ k_)) ho0 (bF_ hB_) (fun k_ h_ => h_)) (kk_ BK550)) (kk_ BK551)) (bF_ hB_)); replace BK550 := bb_ BK550 hb; replace BK551 := bb_ BK551 hb; replace HB := b1_ hb; clear hb ho0; obtain ⟨Ao17, co17, eo17⟩ := Kd.S_slice HO554.out; subst eo17) | ((with_reducible refine gA_ (f := 56) rfl ?_); refine gL_ (some 12) Tryz.func56 #[.slice Ao17 t552.length co17, .func (.func 57) #[] #[]] rfl qa_ ?_; (with_reducible refine (Z20.calls k (fun k_ => ((((w.heap.size ≤ k_) ∧ True) ∧ k_ ≠ gb550) ∧ k_ ≠ gb551)) _ _ t552 t555 t558 _ (Kd.S_V (HO554.out)) A11.out).mono ?_); rintro e w18 ⟨v556, v559, rfl, ho0, ho1, hb, hj_⟩; refine ⟨_, rfl, ?_⟩; have HOW_ := A_ (atJ_own (ss_ HO554) hj_ hb); clear hj_; replace HO554 := sb_ HO554 hb; have HO557 := A_ (Kd.V_lower (Kd.V_mono (ok' := fun k_ => (w.heap.size ≤ k_) ∧ k_ ≠ gb550 ∧ k_ ≠ gb551) ho0 (fun k_ hk_ => ⟨Or.elim hk_ (fun hs_ => hs_.1.1.1) (fun hn_ => (Nat.le_trans (bF_ hB_) hn_)), Or.elim hk_ (fun hs_ => hs_.1.2) (fun hn_ => (Kd.freshB (kk_ BK550) k_ hn_)), Or.elim hk_ (fun hs_ => hs_.2) (fun hn_ => (Kd.freshB (kk_ BK551) k_ hn_))⟩)) (bF_ hB_)); have HO560 := A_ (Kd.V_lower (Kd.V_mono (ok' := fun k_ => (w.heap.size ≤ k_) ∧ k_ ≠ gb550 ∧ k_ ≠ gb551) ho1 (fun k_ hk_ => ⟨Or.elim hk_ (fun hs_ => hs_.1.1.1) (fun hn_ => (Nat.le_trans (bF_ hB_) hn_)), Or.elim hk_ (fun hs_ => hs_.1.2) (fun hn_ => (Kd.freshB (kk_ BK550) k_ hn_)), Or.elim hk_ (fun hs_ => hs_.2) (fun hn_ => (Kd.freshB (kk_ BK551) k_ hn_))⟩)) (bF_ hB_)); replace BK550 := bb_ BK550 hb; replace BK551 := bb_ BK551 hb; replace HB := b1_ hb; clear hb ho0 ho1; obtain ⟨Ao19, co19, eo19⟩ := Kd.V_slice HO557.out; subst eo19; obtain ⟨hcz20_0, hcz20_1, hfz20_0, hfz20_1⟩ := c2_ BK551; obtain ⟨Ao21, co21, eo21⟩ := Kd.V_slice HO560.out; subst eo21))
  refine bodyPost_ret (results_ct rfl _ _ gb551 38 #[.slice Ao19 t555.length co19, .slice Ao21 t558.length co21] (0, 0) _ rfl qp_ Tryz.underlying38 rfl (by kernel_rfl)) rfl ?_
  exact ⟨_, _, qb_, (rw_ (Kd.R_mono (Kd.R_tight rfl (Kd.R_far (p := ⟨gb551, 1, none⟩) (Kd.R_far (p := ⟨gb551, 0, none⟩) (Kd.R_types HOW_.out.1 (BK551.out) (by decide)) (fun _ hk => hk.2) _) (fun _ hk => hk.2) _)) (fun k_ e1_ e2_ => HOW_.out.2.2 k_ e1_.symm e2_.symm))), (rw_ (Kd.R_mono (Kd.R_tight rfl (Kd.R_far (p := ⟨gb551, 1, none⟩) (Kd.R_far (p := ⟨gb551, 0, none⟩) (Kd.R_types HOW_.out.2.1 (BK551.out) (by decide)) (fun _ hk => hk.2) _) (fun _ hk => hk.2) _)) (fun k_ e1_ e2_ => HOW_.out.2.2 k_ e2_.symm e1_.symm))), hB_⟩
end Go.Proofs.YtoijcallajegfaaGreat.A
end
section
/- Runs of equal surfaces struck out: the walk of slices.CompactFunc. No conditions. -/
namespace Go.Proofs.YtoijcallajegfaaGreat.M
set_option linter.unusedVariables false
set_option linter.unusedSimpArgs false
open Go Go.RowKit Go.Proofs.YtoijcallajegfaaGreatW.PrintWords Go.Proofs.YtoijcallajegfaaGreatW.PrintLast Go.Proofs.YtoijcallajegfaaGreatW.PrintMore Go.Shelf Go.Lib Go.Sort Go.Proofs
theorem two_of_len {l : List Value} (h : l.length = 2) : ∃ a b, l = [a, b] := by
 match l, h with
 | [a, b], _ => exact ⟨a, b, rfl⟩
theorem swk_cell {α : Type} [Inhabited α] {enc : α → List Value} {w0 W : World} {blk off : Nat} {dk d0 : Array α} (h : SWK enc 2 w0 blk off dk W) (R : RowK enc 2 w0 blk off d0) (n : Nat) (os : Array Obj) {i : Nat} (hi : i < dk.size) {a b : Value} (hv : enc dk[i]! = [a, b]) (hs : dk.size = d0.size := by first | rfl | assumption) :
  (grow (W.drewN n) os).cell? ⟨blk, off + i * 2, none⟩ = some a ∧ (grow (W.drewN n) os).cell? ⟨blk, off + i * 2 + 1, none⟩ = some b := by
 have hh := (h.grown n os).holds R.hblk R.hH hs
 have h0 := (hh.cell (c := 0) hi (by omega)).1
 have h1 := (hh.cell (c := 1) hi (by omega)).1
 rw [hv] at h0 h1
 exact ⟨h0, h1⟩
theorem run_clear_two (w : World) (t e ty : TypeId) (ht : Tryz.prog.underlying t = some (.slice e)) (hv : ∀ w, (zeroValue e).run Tryz.prog w = .ok (.agg #[.slice none 0 0, .slice none 0 0]) w) (b o n c : Nat) (hn : 0 < n)
  (hc : ∀ j, j < n * 2 → (w.cell? ⟨b, o + j, none⟩).isSome = true) (hf : ∀ j, j < n * 2 → w.frozen? ⟨b, o + j, none⟩ = false) :
  ∃ vs, (Builtin.clear_ #[t] ty #[.slice (some ⟨b, o, none⟩) n c]).run Tryz.prog w = .ok (.tuple #[]) (w.setCells b o vs) := by
 obtain ⟨vs, hvs⟩ : ∃ vs, vs = (Builtin.zeroCells (Value.agg #[.slice none 0 0, .slice none 0 0]).cells n).toList := ⟨_, rfl⟩
 have hl : vs.length = n * 2 := by rw [hvs]; simp [Builtin.zeroCells, Value.cells]
 have h1 : ∀ v ∈ vs, v.oneCell' = true := by
  intro v hv'
  rw [hvs] at hv'
  simp only [Builtin.zeroCells, Value.cells, Array.toList_map, List.mem_map] at hv'
  obtain ⟨i, _, rfl⟩ := hv'
  have h2 : i % 2 = 0 ∨ i % 2 = 1 := by omega
  rcases h2 with h2 | h2 <;> simp [h2, Value.oneCell']
 have hst := run_storeCells_cells (P := Tryz.prog) b o vs 0 w (by rw [hl]; simpa using hc) (by rw [hl]; simpa using hf) h1
 simp only [Nat.add_zero] at hst
 refine ⟨vs, ?_⟩
 obtain ⟨m, rfl⟩ : ∃ m, n = m + 1 := ⟨n - 1, by omega⟩
 simp [Builtin.clear_, run_underlying ht, hv, ← hvs, hst]
theorem setMany_put {α : Type} [Inhabited α] (enc : α → List Value) (k : Nat) (hk : ∀ x, (enc x).length = k) (d : Array α) (i : Nat) (x : α) (hi : i < d.size) : setMany (flatK enc k d) (i * k) (enc x) = flatK enc k (d.setIfInBounds i x) := by
 refine ext_get! (by simp) fun t ht => ?_
 have ht' : t < d.size * k := by simpa using ht
 have k0 : 0 < k := by
  rcases Nat.eq_zero_or_pos k with h | h
  ·subst h; simp at ht'
  ·exact h
 rw [get_setMany _ _ _ t (by simpa using ht'), get_flatK _ _ _ t ht', get_flatK _ _ _ t (by simpa using ht'), hk]
 have m : ∀ q, t / k = q → t - q * k = t % k := fun q h => by subst h; rw [Nat.mod_eq_sub_div_mul]
 by_cases a : t / k = i
 ·rw [if_pos ((blk_iff k i t k0).2 a), m i a, a, getElem!_set_same d i x hi]
 ·rw [if_neg (fun h => a ((blk_iff k i t k0).1 h)), getElem!_set_other d i _ x a]
theorem swk_put {α : Type} [Inhabited α] {enc : α → List Value} {w0 W : World} {blk off : Nat} {dk : Array α} (h : SWK enc 2 w0 blk off dk W) (hk : ∀ x, (enc x).length = 2) (hb : blk < w0.heap.size) {i : Nat} (hi : i < dk.size) (x : α) {a b : Value} (hx : enc x = [a, b]) :
  SWK enc 2 w0 blk off (dk.setIfInBounds i x) ((W.setCell ⟨blk, off + i * 2, none⟩ a).setCell ⟨blk, off + i * 2 + 1, none⟩ b) := by
 obtain ⟨n, os, rfl⟩ := h
 refine ⟨n, os, ?_⟩
 show (sortWorldK enc 2 w0 blk off n dk os).setCells blk (off + i * 2) [a, b] = _
 unfold sortWorldK
 rw [setCells_grow os blk _ _ _ (by rw [size_putRowK]; exact hb)]
 congr 1
 unfold putRowK
 have hle := rowK_bnd dk 2 i hi
 rw [setCells_putRow _ _ _ _ _ _ (by rw [size_flatK]; simpa using hle), ← hx, setMany_put enc 2 hk dk i x hi]
theorem swk_frozen {α : Type} [Inhabited α] {enc : α → List Value} {w0 W : World} {blk off : Nat} {dk d0 : Array α} (h : SWK enc 2 w0 blk off dk W) (R : RowK enc 2 w0 blk off d0) (hs : dk.size = d0.size) {j : Nat} (hj : j < dk.size * 2) :
  (W.cell? ⟨blk, off + j, none⟩).isSome = true ∧ W.frozen? ⟨blk, off + j, none⟩ = false := by
 have hh := h.holds R.hblk R.hH hs
 have := hh j (by rw [size_flatK]; exact hj)
 exact ⟨by rw [this.1]; rfl, this.2⟩
set_option maxHeartbeats 4000000 in
set_option maxRecDepth 1000000 in
theorem compact_walk {α : Type} [Inhabited α] (enc : α → List Value) (eqf : α → α → Bool) (f blk off cap : Nat) (d : Array α) (w : World) (R : RowK enc 2 w blk off d)
  (eg : ∀ args w, (callFunc f args).run Tryz.prog w = .ok (.enter f args) w)
  (hcmp : ∀ (W : World), (∃ dk : Array α, dk.size = d.size ∧ SWK enc 2 w blk off dk W) → ∀ x y, Calls Tryz.prog f #[.agg (enc x).toArray, .agg (enc y).toArray] W fun e w' => e = .returned (.bool (eqf x y)) ∧ ∃ q os', w' = grow (W.drewN q) os')
  (h0 : 0 < d.size) (hsz : d.size < 4611686018427387904) (hcap : d.size ≤ cap) :
  Calls Tryz.prog 59 #[.slice (some ⟨blk, off, none⟩) d.size cap, .func (.func f) #[] #[]] w fun e w' => ∃ kk, e = .returned (.slice (some ⟨blk, off, none⟩) kk cap) ∧ ∃ dk W, CompB eqf d d.size kk dk ∧ SWK enc 2 w blk off dk W ∧ (w' = W ∨ ∃ vs, w' = W.setCells blk (off + kk * 2) vs) := by
 have HS : Aside (SWK enc 2 w blk off d w) := SWK.start R.hH
 have HR : Aside (RowK enc 2 w blk off d) := R
 have HC : Aside _ := hcmp
 clear R hcmp
 have hmix : Tryz.prog.follows .mixedOrders = true := by kernel_rfl
 go_enter Tryz.func59, Tryz.ntmps59
 by_cases h2 : d.size < 2
 ·have h2z : (d.size : Int) < 2 := by omega
  go_wp2
  go_ret
  have e1 : d.size = 1 := by omega
  exact ⟨1, by rw [e1]; rfl, d, w, by have := CompB.one (eqf := eqf) h0; rw [e1]; exact this, HS.out, .inl rfl⟩
 ·have h2z : ¬ (d.size : Int) < 2 := by omega
  go_wp2
  go_loopg [5] d.size (fun g1 v5 wr => ∃ (kx : Nat), v5 = .int .i64 kx ∧ 1 ≤ kx ∧ kx ≤ d.size ∧ d.size - kx ≤ g1 ∧ Aside (SWK enc 2 w blk off d wr) ∧ Hid (CompB eqf d kx kx d))
  case atStart => exact ⟨1, by go_num, by omega, by omega, by omega, HS, CompB.one h0⟩
  case round =>
   clear HS
   obtain ⟨kx, rfl, hk1, hk2, hg1, S1, hC⟩ := hrel
   by_cases hlt : kx < d.size
   ·have hltz : (kx : Int) < (d.size : Int) := by omega
    obtain ⟨kp, rfl⟩ : ∃ kp, kx = kp + 1 := ⟨kx - 1, by omega⟩
    obtain ⟨xk, hxk⟩ : ∃ x, x = d[kp + 1]! := ⟨_, rfl⟩
    obtain ⟨xp, hxp⟩ : ∃ x, x = d[kp]! := ⟨_, rfl⟩
    have pk : (0 : Int) ≤ (kp : Int) + 1 := by omega
    have ek : ((kp : Int) + 1).toNat = kp + 1 := by omega
    have bk : (kp : Int) + 1 < (d.size : Int) := by omega
    have bp : (kp : Int) < (d.size : Int) := by omega
    have wp : IntKind.i64.wrap (kp : Int) = (kp : Int) := by rw [IntKind.wrap_i64]; omega
    obtain ⟨a0, a1, ha⟩ : ∃ a0 a1, enc xk = [a0, a1] := two_of_len (HR.out.hk xk)
    obtain ⟨b0, b1, hb⟩ : ∃ b0 b1, enc xp = [b0, b1] := two_of_len (HR.out.hk xp)
    have lk0 := fun n os => swk_cell S1.out HR.out n os (i := kp + 1) (by omega) (by rw [← hxk]; exact ha)
    have lp0 := fun n os => swk_cell S1.out HR.out n os (i := kp) (by omega) (by rw [← hxp]; exact hb)
    have lk1 := fun n os => (lk0 n os).2
    have lp1 := fun n os => (lp0 n os).2
    replace lk0 := fun n os => (lk0 n os).1
    replace lp0 := fun n os => (lp0 n os).1
    have hc : ∀ n os, Calls Tryz.prog f #[.agg (enc xk).toArray, .agg (enc xp).toArray] (grow (wr.drewN n) os) fun e w' => e = .returned (.bool (eqf xk xp)) ∧ ∃ q os', w' = grow ((grow (wr.drewN n) os).drewN q) os' := fun n os => HC.out _ ⟨d, rfl, S1.out.grown n os⟩ xk xp
    have hkeep : Hid (keepsB eqf d (kp + 1) = !(eqf xk xp)) := by
     show _ = _
     unfold keepsB
     rw [hxk, hxp]
     simp
    rw [ha, hb] at hc
    clear hxk hxp
    cases hv : eqf xk xp with
    | false =>
     rw [hv] at hc
     go_wp2_with fail
     go_quiet_grown (first | (go_at_fn f; refine Calls.grown_of (hc _ _)))
     have S2 : Aside (SWK enc 2 w blk off d (grow (wr.drewN nq) osq)) := S1.out.grown nq osq
     clear lk0 lk1 lp0 lp1 hc S1
     generalize grow (wr.drewN nq) osq = wu2 at S2 ⊢
     clear nq osq
     go_wp2
     go_roundg (d.size - (kp + 1 + 1))
     case measure => omega
     case rel => exact ⟨kp + 1 + 1, by go_num, by omega, by omega, by omega, S2, hC.out.same (by omega) (by rw [hkeep.out, hv]; rfl)⟩
    | true =>
     rw [hv] at hc
     go_wp2_with fail
     go_quiet_grown (first | (go_at_fn f; refine Calls.grown_of (hc _ _)))
     have S2 : Aside (SWK enc 2 w blk off d (grow (wr.drewN nq) osq)) := S1.out.grown nq osq
     clear lk0 lk1 lp0 lp1 hc S1
     generalize grow (wr.drewN nq) osq = wu2 at S2 ⊢
     clear nq osq
     have hC2 : Hid (CompB eqf d (kp + 1 + 1) (kp + 1) d) := hC.out.skip (by omega) (by rw [hkeep.out, hv]; rfl)
     clear hC
     clear ha hb hkeep hv
     go_wp2
     go_loopg [5, 7] d.size (fun g2 v5 v7 wr2 => ∃ (kk k2 : Nat) (dk : Array α), v5 = .int .i64 kk ∧ v7 = .int .i64 k2 ∧ 1 ≤ k2 ∧ kp + 1 + k2 ≤ d.size ∧ kk < kp + 1 + k2 ∧ d.size - (kp + 1 + k2) ≤ g2 ∧ dk.size = d.size ∧ Aside (SWK enc 2 w blk off dk wr2) ∧ Hid (CompB eqf d (kp + 1 + k2) kk dk))
     case atStart => exact ⟨kp + 1, 1, d, by go_num, by go_num, by omega, by omega, by omega, by omega, rfl, S2, hC2⟩
     case round =>
      clear S2 hC2
      obtain ⟨kk, k2, dk, rfl, rfl, h1, hle, hkk, hg2, hds, S3, hC3⟩ := hrel
      by_cases hlt2 : kp + 1 + k2 < d.size
      ·obtain ⟨j, rfl⟩ : ∃ j, k2 = j + 1 := ⟨k2 - 1, by omega⟩
       have hltz2 : (j : Int) + 1 < ((d.size - (kp + 1) : Nat) : Int) := by omega
       obtain ⟨xu, hxu⟩ : ∃ x, x = dk[kp + 1 + (j + 1)]! := ⟨_, rfl⟩
       obtain ⟨xv, hxv⟩ : ∃ x, x = dk[kp + 1 + j]! := ⟨_, rfl⟩
       have p1 : (0 : Int) ≤ (j : Int) + 1 := by omega
       have e1 : ((j : Int) + 1).toNat = j + 1 := by omega
       have w1 : IntKind.i64.wrap (j : Int) = (j : Int) := by rw [IntKind.wrap_i64]; omega
       have p2 : (j : Int) < ((d.size - (kp + 1) : Nat) : Int) := by omega
       obtain ⟨a0, a1, ha⟩ : ∃ a0 a1, enc xu = [a0, a1] := two_of_len (HR.out.hk xu)
       obtain ⟨b0, b1, hb⟩ : ∃ b0 b1, enc xv = [b0, b1] := two_of_len (HR.out.hk xv)
       have lk0 := fun n os => swk_cell S3.out HR.out n os (i := kp + 1 + (j + 1)) (by omega) (by rw [← hxu]; exact ha) hds
       have lp0 := fun n os => swk_cell S3.out HR.out n os (i := kp + 1 + j) (by omega) (by rw [← hxv]; exact hb) hds
       rw [show off + (kp + 1 + (j + 1)) * 2 = off + (kp + 1) * 2 + (j + 1) * 2 by omega] at lk0
       rw [show off + (kp + 1 + j) * 2 = off + (kp + 1) * 2 + j * 2 by omega] at lp0
       have lk1 := fun n os => (lk0 n os).2
       have lp1 := fun n os => (lp0 n os).2
       replace lk0 := fun n os => (lk0 n os).1
       replace lp0 := fun n os => (lp0 n os).1
       have hc : ∀ n os, Calls Tryz.prog f #[.agg (enc xu).toArray, .agg (enc xv).toArray] (grow (wr.drewN n) os) fun e w' => e = .returned (.bool (eqf xu xv)) ∧ ∃ q os', w' = grow ((grow (wr.drewN n) os).drewN q) os' := fun n os => HC.out _ ⟨dk, hds, S3.out.grown n os⟩ xu xv
       have hkeep : Hid (keepsB eqf d (kp + 1 + (j + 1)) = !(eqf xu xv)) := by
        show _ = _
        unfold keepsB
        rw [hxu, hxv, hC3.out.high _ (by omega), hC3.out.high _ (by omega), show kp + 1 + (j + 1) - 1 = kp + 1 + j by omega]
        have : (kp + 1 + (j + 1) == 0) = false := by simp
        rw [this, Bool.false_or]
       have hxd : Hid (xu = d[kp + 1 + (j + 1)]!) := by
        show _ = _
        rw [hxu, hC3.out.high _ (by omega)]
       have HA : Hid (enc xu = [a0, a1]) := ha
       rw [ha, hb] at hc
       clear hxu hxv ha hb
       cases hv : eqf xu xv with
       | true =>
        rw [hv] at hc
        go_wp2_with fail
        go_quiet_grown (first | (go_at_fn f; refine Calls.grown_of (hc _ _)))
        have S4 : Aside (SWK enc 2 w blk off dk (grow (wr.drewN nq) osq)) := S3.out.grown nq osq
        clear lk0 lk1 lp0 lp1 hc S3
        generalize grow (wr.drewN nq) osq = wu2 at S4 ⊢
        clear nq osq
        go_wp2
        go_roundg (d.size - (kp + 1 + (j + 1 + 1)))
        case measure => omega
        case rel => exact ⟨kk, j + 1 + 1, dk, by go_num, by go_num, by omega, by omega, by omega, by omega, hds, S4, hC3.out.skip (by omega) (by rw [hkeep.out, hv]; rfl)⟩
       | false =>
        rw [hv] at hc
        go_wp2_with fail
        go_quiet_grown (first | (go_at_fn f; refine Calls.grown_of (hc _ _)))
        have S4 : Aside (SWK enc 2 w blk off dk (grow (wr.drewN nq) osq)) := S3.out.grown nq osq
        replace lk0 := lk0 nq osq
        replace lk1 := lk1 nq osq
        clear lp0 lp1 hc S3
        generalize grow (wr.drewN nq) osq = wu2 at S4 lk0 lk1 ⊢
        clear nq osq
        have s0 := (swk_frozen S4.out HR.out hds (j := kk * 2) (by omega))
        have s1 := (swk_frozen S4.out HR.out hds (j := kk * 2 + 1) (by omega))
        obtain ⟨o0, c0⟩ := Option.isSome_iff_exists.1 s0.1
        obtain ⟨o1, c1⟩ := Option.isSome_iff_exists.1 s1.1
        have f0 := s0.2
        have f1 := s1.2
        rw [← Nat.add_assoc] at c1 f1
        clear s0 s1
        have oa := HR.out.h1 xu a0 (by rw [HA.out]; simp)
        have ob := HR.out.h1 xu a1 (by rw [HA.out]; simp)
        have bk2 : (kk : Int) < (d.size : Int) := by omega
        have t0 : Sem.run Tryz.prog (store ⟨blk, off + kk * 2, none⟩ a0) wu2 = .ok () (wu2.setCell ⟨blk, off + kk * 2, none⟩ a0) := by
         rw [run_store _ _ _ _ _ oa]
         simp [c0, f0]
        have t1 : Sem.run Tryz.prog (store ⟨blk, off + kk * 2 + 1, none⟩ a1) (wu2.setCell ⟨blk, off + kk * 2, none⟩ a0) = .ok () ((wu2.setCell ⟨blk, off + kk * 2, none⟩ a0).setCell ⟨blk, off + kk * 2 + 1, none⟩ a1) := by
         rw [run_store _ _ _ _ _ ob]
         have c1' : (wu2.setCell ⟨blk, off + kk * 2, none⟩ a0).cell? ⟨blk, off + kk * 2 + 1, none⟩ = some o1 := by rw [World.cell?_setCell_other _ _ _ _ (by intro e_; injection e_ with _ h2 _; omega)]; exact c1
         have f1' : (wu2.setCell ⟨blk, off + kk * 2, none⟩ a0).frozen? ⟨blk, off + kk * 2 + 1, none⟩ = false := by rw [World.frozen?_setCell]; exact f1
         simp [c1', f1']
        have S5 : Aside (SWK enc 2 w blk off (dk.setIfInBounds kk xu) ((wu2.setCell ⟨blk, off + kk * 2, none⟩ a0).setCell ⟨blk, off + kk * 2 + 1, none⟩ a1)) := swk_put S4.out HR.out.hk HR.out.hblk (by omega) xu HA.out
        go_wp2
        go_roundg (d.size - (kp + 1 + (j + 1 + 1)))
        case measure => omega
        case rel => exact ⟨kk + 1, j + 1 + 1, dk.setIfInBounds kk xu, by go_num, by go_num, by omega, by omega, by omega, by omega, by simpa using hds, S5, by rw [hxd.out]; exact hC3.out.keep (by omega) (by rw [hkeep.out, hv]; rfl)⟩
      ·have hend : kp + 1 + k2 = d.size := by omega
       have hltz2 : ¬ (k2 : Int) < ((d.size - (kp + 1) : Nat) : Int) := by omega
       obtain ⟨vs, hcl⟩ := run_clear_two wr 28 38 0 Tryz.underlying28 Tryz.zeroValue38 blk (off + kk * 2) (d.size - kk) (cap - kk) (by omega) (fun j hj => by rw [Nat.add_assoc]; exact (swk_frozen S3.out HR.out hds (by omega)).1) (fun j hj => by rw [Nat.add_assoc]; exact (swk_frozen S3.out HR.out hds (by omega)).2)
       go_wp2
       go_ret
       have hI := hC3.out
       rw [hend] at hI
       exact ⟨kk, rfl, dk, hI, _, S3.out, .inr ⟨vs, rfl⟩⟩
   ·have hltz : ¬ (kx : Int) < (d.size : Int) := by omega
    go_wp2
    go_ret
    have e1 : kx = d.size := by omega
    subst e1
    exact ⟨d.size, rfl, d, hC.out, _, S1.out, .inl rfl⟩
end Go.Proofs.YtoijcallajegfaaGreat.M
end
section
/- Plain mathematics: permutations as lists of numbers. No conditions. -/
namespace Go.Proofs.YtoijcallajegfaaGreat.M
set_option linter.unusedVariables false
set_option linter.unusedSimpArgs false
def I (l : List Nat) : List Int := l.map Int.ofNat
def g (p : List Nat) (i : Nat) : Nat := p.getD i 0
def tab (n : Nat) (f : Nat → Nat) : List Nat := (List.range n).map f
theorem I_len (l : List Nat) : (I l).length = l.length := by simp [I]
theorem I_inj {a b : List Nat} (h : I a = I b) : a = b := by
 unfold I at h
 exact (List.map_inj_right (fun x y hxy => Int.ofNat.inj hxy)).mp h
theorem tab_len (n : Nat) (f : Nat → Nat) : (tab n f).length = n := by simp [tab]
theorem g_tab {n : Nat} {f : Nat → Nat} {i : Nat} (h : i < n) : g (tab n f) i = f i := by simp [g, tab, List.getD_eq_getElem?_getD, h]
theorem g_get {p : List Nat} {i : Nat} (h : i < p.length) : g p i = p[i] := by simp [g, List.getD_eq_getElem?_getD, h]
theorem g_mem {p : List Nat} {i : Nat} (h : i < p.length) : g p i ∈ p := by rw [g_get h]; exact List.getElem_mem h
theorem mem_g {p : List Nat} {x : Nat} (h : x ∈ p) : ∃ i, i < p.length ∧ g p i = x := by
 obtain ⟨i, hi, rfl⟩ := List.mem_iff_getElem.mp h
 exact ⟨i, hi, g_get hi⟩
theorem ext_g {a b : List Nat} (hl : a.length = b.length) (h : ∀ i, i < a.length → g a i = g b i) : a = b := by
 apply List.ext_getElem hl
 intro i h1 h2
 rw [← g_get h1, ← g_get h2]
 exact h i h1
theorem eq_tab {l : List Nat} {n : Nat} {f : Nat → Nat} (hl : l.length = n) (h : ∀ i, i < n → g l i = f i) : l = tab n f :=
 ext_g (by rw [tab_len, hl]) (fun i hi => by rw [hl] at hi; rw [g_tab hi, h i hi])
theorem g_set {p : List Nat} {i x j : Nat} (h : i < p.length) : g (p.set i x) j = if i = j then x else g p j := by
 unfold g
 rw [List.getD_eq_getElem?_getD, List.getD_eq_getElem?_getD, List.getElem?_set]
 by_cases e : i = j
 ·subst e
  simp [h]
 ·simp [e]
theorem I_set (p : List Nat) (i x : Nat) : (I p).set i (x : Int) = I (p.set i x) := by simp [I, List.map_set]
theorem I_app (p q : List Nat) : I p ++ I q = I (p ++ q) := by simp [I]
theorem I_one (x : Nat) : I [x] = [(x : Int)] := rfl
theorem I_snoc (p : List Nat) (x : Nat) : I p ++ [(x : Int)] = I (p ++ [x]) := by simp [I]
theorem I_nil : I [] = [] := rfl
theorem I_rep (n x : Nat) : I (List.replicate n x) = List.replicate n (x : Int) := by simp [I]
structure IsP (p : List Nat) : Prop where
 lt : ∀ x ∈ p, x < p.length
 nd : p.Nodup
instance (p : List Nat) : Decidable (IsP p) := decidable_of_iff ((∀ x ∈ p, x < p.length) ∧ p.Nodup) ⟨fun h => ⟨h.1, h.2⟩, fun h => ⟨h.lt, h.nd⟩⟩
theorem nodup_le (n : Nat) : ∀ l : List Nat, l.Nodup → (∀ x ∈ l, x < n) → l.length ≤ n := by
 induction n with
 | zero =>
  intro l _ h
  cases l with
  | nil => simp
  | cons a l => exact absurd (h a (by simp)) (by omega)
 | succ n ih =>
  intro l hn h
  have h1 := ih (l.erase n) (hn.erase n) (fun x hx => by
   have h2 := (List.Nodup.mem_erase_iff hn).mp hx
   have h3 := h x h2.2
   have h4 := h2.1
   omega)
  have h5 := @List.length_erase _ _ _ n l
  split at h5 <;> omega
theorem mem_all {p : List Nat} (hp : IsP p) {x : Nat} (h : x < p.length) : x ∈ p := by
 apply Classical.byContradiction
 intro hx
 have := nodup_le p.length (x :: p) (List.nodup_cons.mpr ⟨hx, hp.nd⟩) (fun y hy => by
  rcases List.mem_cons.mp hy with rfl | hy
  ·exact h
  ·exact hp.lt y hy)
 simp at this
 omega
theorem g_lt {p : List Nat} (hp : IsP p) {i : Nat} (h : i < p.length) : g p i < p.length := hp.lt _ (g_mem h)
theorem g_inj {p : List Nat} (hp : IsP p) {i j : Nat} (hi : i < p.length) (hj : j < p.length) (h : g p i = g p j) : i = j := by
 rw [g_get hi, g_get hj] at h
 have hw := List.pairwise_iff_getElem.mp hp.nd
 rcases Nat.lt_trichotomy i j with hij | hij | hij
 ·exact absurd h (hw i j hi hj hij)
 ·exact hij
 ·exact absurd h.symm (hw j i hj hi hij)
def ix (p : List Nat) (x : Nat) : Nat := p.idxOf x
theorem ix_lt {p : List Nat} (hp : IsP p) {x : Nat} (h : x < p.length) : ix p x < p.length := List.idxOf_lt_length_of_mem (mem_all hp h)
theorem g_ix {p : List Nat} (hp : IsP p) {x : Nat} (h : x < p.length) : g p (ix p x) = x := by
 rw [g_get (ix_lt hp h)]
 exact List.getElem_idxOf (ix_lt hp h)
theorem ix_g {p : List Nat} (hp : IsP p) {i : Nat} (h : i < p.length) : ix p (g p i) = i :=
 g_inj hp (ix_lt hp (g_lt hp h)) h (g_ix hp (g_lt hp h))
theorem ix_eq {p : List Nat} (hp : IsP p) {i x : Nat} (h : i < p.length) (e : g p i = x) : ix p x = i := by rw [← e]; exact ix_g hp h
theorem isP_mk {p : List Nat} (h1 : ∀ i, i < p.length → g p i < p.length) (h2 : ∀ i j, i < p.length → j < p.length → g p i = g p j → i = j) : IsP p := by
 refine ⟨fun x hx => ?_, ?_⟩
 ·obtain ⟨i, hi, rfl⟩ := mem_g hx
  exact h1 i hi
 ·refine List.pairwise_iff_getElem.mpr ?_
  intro i j hi hj hij e'
  rw [← g_get hi, ← g_get hj] at e'
  have := h2 i j hi hj e'
  omega
theorem isP_tab {n : Nat} {f : Nat → Nat} (h1 : ∀ i, i < n → f i < n) (h2 : ∀ i j, i < n → j < n → f i = f j → i = j) : IsP (tab n f) := by
 refine isP_mk (fun i hi => ?_) (fun i j hi hj e => ?_)
 ·rw [tab_len] at hi ⊢; rw [g_tab hi]; exact h1 i hi
 ·rw [tab_len] at hi hj; rw [g_tab hi, g_tab hj] at e; exact h2 i j hi hj e
def inv (p : List Nat) : List Nat := tab p.length (ix p)
theorem inv_len (p : List Nat) : (inv p).length = p.length := tab_len _ _
theorem g_inv {p : List Nat} {i : Nat} (h : i < p.length) : g (inv p) i = ix p i := g_tab h
theorem isP_inv {p : List Nat} (hp : IsP p) : IsP (inv p) := isP_tab (fun i hi => ix_lt hp hi) (fun i j hi hj e => by rw [← g_ix hp hi, ← g_ix hp hj, e])
def thn (p q : List Nat) : List Nat := tab p.length (fun i => g q (g p i))
theorem thn_len (p q : List Nat) : (thn p q).length = p.length := tab_len _ _
theorem isP_thn {p q : List Nat} (hp : IsP p) (hq : IsP q) (hl : p.length = q.length) : IsP (thn p q) :=
 isP_tab (fun i hi => by have h1 := g_lt hp hi; have h2 := g_lt hq (i := g p i) (by omega); omega)
  (fun i j hi hj e => g_inj hp hi hj (g_inj hq (by have := g_lt hp hi; omega) (by have := g_lt hp hj; omega) e))
def ren (p names : List Nat) : List Nat := tab p.length (fun j => g names (g p (ix names j)))
theorem ren_len (p names : List Nat) : (ren p names).length = p.length := tab_len _ _
theorem g_ren {p names : List Nat} {j : Nat} (h : j < p.length) : g (ren p names) j = g names (g p (ix names j)) := g_tab h
end Go.Proofs.YtoijcallajegfaaGreat.M
end
section
/- Plain mathematics: permutations of whole numbers, and what is reached by two of them. No conditions. -/
namespace Go.Proofs.YtoijcallajegfaaGreat.M
set_option linter.unusedVariables false
set_option linter.unusedSimpArgs false
open Go.RowKit Go.Proofs.YtoijcallajegfaaGreatW.PrintWords Go.Proofs.YtoijcallajegfaaGreatW.PrintLast Go.Proofs.YtoijcallajegfaaGreatW.PrintMore
theorem w64 {x : Int} (h0 : -9223372036854775808 ≤ x) (h1 : x ≤ 9223372036854775807) : wrap64 x = x := by unfold wrap64; omega
theorem w64s (i : Nat) (h : i ≤ 9000000000000000000) : wrap64 ((i : Int) + 1) = ((i + 1 : Nat) : Int) := by rw [w64 (by omega) (by omega)]; omega
theorem ev_succ {α : Type} {f : Nat → Option α} {r : α} (h : Ev (fun k => f (k + 1)) r) : Ev f r := Ev.step (fun _ => rfl) h
theorem rdI (p : List Nat) (i : Nat) : rd (I p) (i : Int) = ((g p i : Nat) : Int) := by
 unfold rd g I
 simp only [Int.toNat_natCast, List.getD_eq_getElem?_getD, List.getElem?_map]
 cases p[i]? <;> rfl
theorem rd_get (l : List Int) (i : Nat) (h : i < l.length) : rd l (i : Int) = l[i] := by
 unfold rd
 simp [List.getD_eq_getElem?_getD, h]
theorem mem_I {p : List Nat} {x : Nat} : (x : Int) ∈ I p ↔ x ∈ p := by
 unfold I
 constructor
 ·intro h
  obtain ⟨y, hy, e⟩ := List.mem_map.mp h
  have : y = x := Int.ofNat.inj e
  exact this ▸ hy
 ·intro h
  exact List.mem_map.mpr ⟨x, h, rfl⟩
def PI (l : List Int) : Prop := l.length ≤ 24 ∧ (∀ x ∈ l, 0 ≤ x ∧ x < (l.length : Int)) ∧ l.Nodup
instance : DecidablePred PI := fun l => by unfold PI; infer_instance
def permB (l : List Int) : Bool := decide (PI l)
def N (l : List Int) : List Nat := l.map Int.toNat
theorem N_I (p : List Nat) : N (I p) = p := by
 unfold N I
 rw [List.map_map]
 exact List.map_id'' (fun x => rfl) p
theorem N_len (l : List Int) : (N l).length = l.length := by simp [N]
theorem I_N {l : List Int} (h : ∀ x ∈ l, 0 ≤ x) : I (N l) = l := by
 unfold N I
 rw [List.map_map]
 conv => rhs; rw [← List.map_id l]
 apply List.map_congr_left
 intro x hx
 have := h x hx
 simp only [Function.comp, id]
 show ((x.toNat : Nat) : Int) = x
 omega
theorem PI_nat {l : List Int} (h : PI l) : ∃ p, l = I p ∧ IsP p ∧ p.length ≤ 24 := by
 obtain ⟨h1, h2, h3⟩ := h
 refine ⟨N l, (I_N (fun x hx => (h2 x hx).1)).symm, ?_, by rw [N_len]; exact h1⟩
 have e := I_N (fun x hx => (h2 x hx).1)
 refine ⟨fun x hx => ?_, ?_⟩
 ·have := (h2 (x : Int) (by rw [← e]; exact mem_I.mpr hx)).2
  rw [N_len]
  omega
 ·rw [← e] at h3
  unfold I at h3
  exact (List.pairwise_map.mp h3).imp (fun {a b} hab hh => hab (by rw [hh]))
theorem PI_I {p : List Nat} : PI (I p) ↔ IsP p ∧ p.length ≤ 24 := by
 constructor
 ·intro h
  obtain ⟨q, e, h1, h2⟩ := PI_nat h
  have := I_inj e
  subst this
  exact ⟨h1, h2⟩
 ·intro ⟨h1, h2⟩
  refine ⟨by rw [I_len]; exact h2, fun x hx => ?_, ?_⟩
  ·unfold I at hx
   obtain ⟨y, hy, rfl⟩ := List.mem_map.mp hx
   have := h1.lt y hy
   rw [I_len]
   exact ⟨Int.natCast_nonneg y, Int.ofNat_lt.mpr this⟩
  ·unfold I
   exact List.pairwise_map.mpr (h1.nd.imp (fun {a b} hab hh => hab (Int.ofNat.inj hh)))
theorem permB_I {p : List Nat} : permB (I p) = true ↔ IsP p ∧ p.length ≤ 24 := by
 unfold permB
 rw [decide_eq_true_iff]
 exact PI_I
def okFrom (l : List Int) (i : Nat) : Prop := ∀ j : Nat, i ≤ j → j < l.length → 0 ≤ rd l (j : Int) ∧ rd l (j : Int) < (l.length : Int) ∧ rd l (j : Int) ∉ l.take j
theorem okFrom_end (l : List Int) (i : Nat) (h : l.length ≤ i) : okFrom l i := fun j h1 h2 => by omega
theorem okFrom_step {l : List Int} {i : Nat} (h : 0 ≤ rd l (i : Int) ∧ rd l (i : Int) < (l.length : Int) ∧ rd l (i : Int) ∉ l.take i) : okFrom l i ↔ okFrom l (i + 1) := by
 constructor
 ·intro k j h1 h2
  exact k j (by omega) h2
 ·intro k j h1 h2
  by_cases e : j = i
  ·subst e
   exact h
  ·exact k j (by omega) h2
theorem okFrom_not {l : List Int} {i : Nat} (hi : i < l.length) (h : ¬ (0 ≤ rd l (i : Int) ∧ rd l (i : Int) < (l.length : Int) ∧ rd l (i : Int) ∉ l.take i)) : ¬ okFrom l i := fun k => h (k i (Nat.le_refl _) hi)
theorem okFrom_PI {l : List Int} (h : l.length ≤ 24) : okFrom l 0 ↔ PI l := by
 constructor
 ·intro k
  refine ⟨h, fun x hx => ?_, ?_⟩
  ·obtain ⟨i, hi, rfl⟩ := List.mem_iff_getElem.mp hx
   have := k i (Nat.zero_le _) hi
   rw [rd_get l i hi] at this
   exact ⟨this.1, this.2.1⟩
  ·refine List.pairwise_iff_getElem.mpr ?_
   intro i j hi hj hij e
   have := (k j (Nat.zero_le _) hj).2.2
   rw [rd_get l j hj, ← e] at this
   exact this (List.mem_take_iff_getElem.mpr ⟨i, by omega, rfl⟩)
 ·intro ⟨_, h2, h3⟩ j _ hj
  rw [rd_get l j hj]
  refine ⟨(h2 _ (List.getElem_mem hj)).1, (h2 _ (List.getElem_mem hj)).2, fun hm => ?_⟩
  obtain ⟨i, hi, e⟩ := List.mem_take_iff_getElem.mp hm
  exact List.pairwise_iff_getElem.mp h3 i j (by omega) hj (by omega) e
theorem permB_of {l : List Int} {b : Bool} (h : l.length ≤ 24) (hb : b = true ↔ okFrom l 0) : b = permB l := by
 rw [Bool.eq_iff_iff, hb, okFrom_PI h]
 unfold permB
 rw [decide_eq_true_iff]
theorem take_succ (l : List Int) (i : Nat) (h : i < l.length) : l.take (i + 1) = l.take i ++ [rd l (i : Int)] := by
 rw [rd_get l i h, List.take_append_getElem h]
def st1 (out : List Nat) (x : Nat) : List Nat := if x ∈ out then out else out ++ [x]
def bfs (p q : List Nat) : Nat → Nat → List Nat → List Nat
 | 0, _, out => out
 | f + 1, a, out => if a < out.length then bfs p q f (a + 1) (st1 (st1 out (g p (g out a))) (g q (g out a))) else out
def reach (p q : List Nat) (s : Nat) : List Nat := bfs p q (p.length + 1) 0 [s]
structure RInv (n : Nat) (out : List Nat) : Prop where
 nd : out.Nodup
 lt : ∀ x ∈ out, x < n
theorem RInv.le {n : Nat} {out : List Nat} (h : RInv n out) : out.length ≤ n := nodup_le n out h.nd h.lt
theorem RInv.st {n : Nat} {out : List Nat} {x : Nat} (h : RInv n out) (hx : x < n) : RInv n (st1 out x) := by
 unfold st1
 split
 ·exact h
 ·rename_i hn
  refine ⟨List.nodup_append.mpr ⟨h.nd, by simp, fun a ha b hb e => ?_⟩, fun y hy => ?_⟩
  ·have : b = x := by simpa using hb
   subst this
   exact hn (e ▸ ha)
  ·rcases List.mem_append.mp hy with hy | hy
   ·exact h.lt y hy
   ·have : y = x := by simpa using hy
    omega
theorem st1_len (out : List Nat) (x : Nat) : out.length ≤ (st1 out x).length := by
 unfold st1
 split <;> simp
theorem RInv.g {n : Nat} {out : List Nat} {a : Nat} (h : RInv n out) (ha : a < out.length) : M.g out a < n := h.lt _ (g_mem ha)
structure Sf (r u : List Nat) : Prop where
 pr : IsP r
 pu : IsP u
 le : r.length ≤ 24
 eq : u.length = r.length
 pos : 0 < r.length
 all : (reach r u 0).length = r.length
def surfB (r u : List Int) : Bool := permB r && permB u && decide (r.length = u.length) && decide (0 < r.length) && ((reach (N r) (N u) 0).length == r.length)
theorem surf_nat {r u : List Int} (h : surfB r u = true) : ∃ r' u', r = I r' ∧ u = I u' ∧ Sf r' u' := by
 unfold surfB at h
 simp only [Bool.and_eq_true, decide_eq_true_eq, beq_iff_eq] at h
 obtain ⟨⟨⟨⟨h1, h2⟩, h3⟩, h4⟩, h5⟩ := h
 obtain ⟨r', rfl, a1, a2⟩ := PI_nat (of_decide_eq_true h1)
 obtain ⟨u', rfl, b1, b2⟩ := PI_nat (of_decide_eq_true h2)
 rw [N_I, N_I, I_len] at h5
 rw [I_len, I_len] at h3
 rw [I_len] at h4
 exact ⟨r', u', rfl, rfl, a1, b1, a2, h3.symm, h4, h5⟩
theorem surfB_I {r u : List Nat} : surfB (I r) (I u) = true ↔ Sf r u := by
 constructor
 ·intro h
  obtain ⟨r', u', e1, e2, hs⟩ := surf_nat h
  have := I_inj e1
  have := I_inj e2
  subst_vars
  exact hs
 ·intro h
  unfold surfB
  simp only [Bool.and_eq_true, decide_eq_true_eq, beq_iff_eq]
  rw [N_I, N_I, I_len, I_len]
  exact ⟨⟨⟨⟨permB_I.mpr ⟨h.pr, h.le⟩, permB_I.mpr ⟨h.pu, by have := h.le; have := h.eq; omega⟩⟩, h.eq.symm⟩, h.pos⟩, h.all⟩
end Go.Proofs.YtoijcallajegfaaGreat.M
end
section
/- Plain mathematics: going round a permutation. No conditions. -/
namespace Go.Proofs.YtoijcallajegfaaGreat.M
set_option linter.unusedVariables false
set_option linter.unusedSimpArgs false
def itr (p : List Nat) : Nat → Nat → Nat
 | 0, s => s
 | m + 1, s => g p (itr p m s)
theorem itr_lt {p : List Nat} (hp : IsP p) (m : Nat) {s : Nat} (hs : s < p.length) : itr p m s < p.length := by
 induction m with
 | zero => exact hs
 | succ m ih => exact g_lt hp ih
theorem itr_add (p : List Nat) (a b s : Nat) : itr p (a + b) s = itr p a (itr p b s) := by
 induction a with
 | zero => simp [itr]
 | succ a ih =>
  have e : a + 1 + b = (a + b) + 1 := by omega
  rw [e, itr, itr, ih]
theorem itr_back {p : List Nat} (hp : IsP p) {s : Nat} (hs : s < p.length) (i d : Nat) (h : itr p (i + d) s = itr p i s) : itr p d s = s := by
 induction i with
 | zero =>
  have e : 0 + d = d := by omega
  rw [e] at h
  exact h
 | succ i ih =>
  have e : i + 1 + d = (i + d) + 1 := by omega
  rw [e] at h
  exact ih (g_inj hp (itr_lt hp _ hs) (itr_lt hp _ hs) h)
theorem period {p : List Nat} (hp : IsP p) {s : Nat} (hs : s < p.length) : ∃ m, 1 ≤ m ∧ m ≤ p.length ∧ itr p m s = s := by
 apply Classical.byContradiction
 intro hn
 have hd : ((List.range (p.length + 1)).map (fun m => itr p m s)).Nodup := by
  refine List.pairwise_map.mpr ?_
  refine List.pairwise_iff_getElem.mpr ?_
  intro i j hi hj hij
  rw [List.length_range] at hi hj
  rw [List.getElem_range, List.getElem_range]
  intro e
  have : itr p (j - i) s = s := itr_back hp hs i (j - i) (by
   have e2 : i + (j - i) = j := by omega
   rw [e2]
   exact e.symm)
  exact hn ⟨j - i, by omega, by omega, this⟩
 have := nodup_le p.length _ hd (fun x hx => by
  obtain ⟨m, _, rfl⟩ := List.mem_map.mp hx
  exact itr_lt hp m hs)
 simp at this
 omega
def per (p : List Nat) (s : Nat) : Nat := (((List.range p.length).find? (fun m => itr p (m + 1) s == s)).getD 0) + 1
theorem per_spec {p : List Nat} (hp : IsP p) {s : Nat} (hs : s < p.length) : itr p (per p s) s = s ∧ per p s ≤ p.length ∧ ∀ m, 1 ≤ m → m < per p s → itr p m s ≠ s := by
 obtain ⟨m, m1, m2, m3⟩ := period hp hs
 unfold per
 cases h : (List.range p.length).find? (fun m => itr p (m + 1) s == s) with
 | none =>
  have := List.find?_eq_none.mp h (m - 1) (List.mem_range.mpr (by omega))
  have e : m - 1 + 1 = m := by omega
  rw [e, m3] at this
  simp at this
 | some a =>
  simp only [Option.getD_some]
  have h1 := List.find?_some h
  have h2 := List.mem_of_find?_eq_some h
  rw [List.mem_range] at h2
  refine ⟨by simpa using h1, by omega, fun m hm1 hm2 e => ?_⟩
  obtain ⟨_, as1, bs1, hb, hn⟩ := List.find?_eq_some_iff_append.mp h
  have hm : m - 1 ∈ as1 := by
   have hl : as1.length = a := by
    have e1 : (List.range p.length)[as1.length]? = some a := by rw [hb]; simp
    have := List.getElem?_eq_some_iff.mp e1
    obtain ⟨_, e2⟩ := this
    rw [List.getElem_range] at e2
    exact e2
   have e1 : (List.range p.length)[m - 1]? = some (m - 1) := by
    rw [List.getElem?_range]
    omega
   rw [hb, List.getElem?_append_left (by omega)] at e1
   exact List.mem_of_getElem? e1
  have := hn _ hm
  have e3 : m - 1 + 1 = m := by omega
  rw [e3, e] at this
  simp at this
theorem per_pos (p : List Nat) (s : Nat) : 1 ≤ per p s := by unfold per; omega
def orbTo (p : List Nat) (s m : Nat) : List Nat := (List.range m).map (fun k => itr p k s)
def orb (p : List Nat) (s : Nat) : List Nat := orbTo p s (per p s)
theorem mem_orbTo {p : List Nat} {s m x : Nat} : x ∈ orbTo p s m ↔ ∃ k, k < m ∧ itr p k s = x := by
 unfold orbTo
 simp
theorem orbTo_snoc (p : List Nat) (s m : Nat) : orbTo p s m ++ [itr p m s] = orbTo p s (m + 1) := by
 unfold orbTo
 rw [List.range_succ]
 simp
theorem orb_close {p : List Nat} (hp : IsP p) {s m : Nat} (hs : s < p.length) (hm : m < per p s) (h1 : 1 ≤ m) : itr p m s ∉ orbTo p s m := by
 intro h
 obtain ⟨k, hk, e⟩ := mem_orbTo.mp h
 have : itr p (m - k) s = s := itr_back hp hs k (m - k) (by
  have e2 : k + (m - k) = m := by omega
  rw [e2]
  exact e.symm)
 exact (per_spec hp hs).2.2 (m - k) (by omega) (by omega) this
theorem mem_orb {p : List Nat} (hp : IsP p) {s : Nat} (hs : s < p.length) {x : Nat} : x ∈ orb p s ↔ ∃ k, itr p k s = x := by
 constructor
 ·intro h
  obtain ⟨k, _, e⟩ := mem_orbTo.mp h
  exact ⟨k, e⟩
 ·intro ⟨k, e⟩
  have hper := per_spec hp hs
  have hpos := per_pos p s
  have hmod : ∀ k, itr p (k % per p s) s = itr p k s := by
   intro k
   have e1 : k % per p s + per p s * (k / per p s) = k := Nat.mod_add_div k (per p s)
   have hz : ∀ j, itr p (per p s * j) s = s := by
    intro j
    induction j with
    | zero => rfl
    | succ j ih =>
     have : per p s * (j + 1) = per p s * j + per p s := by rw [Nat.mul_add, Nat.mul_one]
     rw [this, itr_add, hper.1, ih]
   conv => rhs; rw [← e1]
   rw [itr_add, hz]
  exact mem_orbTo.mpr ⟨k % per p s, Nat.mod_lt _ (by omega), by rw [hmod, e]⟩
theorem orb_self {p : List Nat} (hp : IsP p) {s : Nat} (hs : s < p.length) : s ∈ orb p s := (mem_orb hp hs).mpr ⟨0, rfl⟩
theorem orb_lt {p : List Nat} (hp : IsP p) {s : Nat} (hs : s < p.length) {x : Nat} (h : x ∈ orb p s) : x < p.length := by
 obtain ⟨k, rfl⟩ := (mem_orb hp hs).mp h
 exact itr_lt hp k hs
theorem orb_sym {p : List Nat} (hp : IsP p) {s : Nat} (hs : s < p.length) {x : Nat} (h : x ∈ orb p s) : s ∈ orb p x := by
 obtain ⟨k, hk, e⟩ := mem_orbTo.mp h
 have hx := orb_lt hp hs h
 refine (mem_orb hp hx).mpr ⟨per p s - k, ?_⟩
 rw [← e, ← itr_add]
 have : per p s - k + k = per p s := by omega
 rw [this]
 exact (per_spec hp hs).1
theorem orb_trans {p : List Nat} (hp : IsP p) {s : Nat} (hs : s < p.length) {x y : Nat} (h : x ∈ orb p s) (k : y ∈ orb p x) : y ∈ orb p s := by
 have hx := orb_lt hp hs h
 obtain ⟨a, rfl⟩ := (mem_orb hp hs).mp h
 obtain ⟨b, rfl⟩ := (mem_orb hp hx).mp k
 exact (mem_orb hp hs).mpr ⟨b + a, itr_add p b a s⟩
def cyc (p : List Nat) : Nat → List (List Nat)
 | 0 => []
 | i + 1 => if ∃ c ∈ cyc p i, i ∈ c then cyc p i else cyc p i ++ [orb p i]
def cycles (p : List Nat) : List (List Nat) := cyc p p.length
theorem cyc_form (p : List Nat) (i : Nat) : ∀ c ∈ cyc p i, ∃ s, s < i ∧ c = orb p s := by
 induction i with
 | zero => intro c h; simp [cyc] at h
 | succ i ih =>
  intro c h
  unfold cyc at h
  split at h
  ·obtain ⟨s, h1, h2⟩ := ih c h
   exact ⟨s, by omega, h2⟩
  ·rcases List.mem_append.mp h with h | h
   ·obtain ⟨s, h1, h2⟩ := ih c h
    exact ⟨s, by omega, h2⟩
   ·exact ⟨i, by omega, by simpa using h⟩
theorem orb_meet {p : List Nat} (hp : IsP p) {s t x : Nat} (hs : s < p.length) (ht : t < p.length) (h1 : x ∈ orb p s) (h2 : x ∈ orb p t) : t ∈ orb p s :=
 orb_trans hp hs h1 (orb_sym hp ht h2)
theorem cyc_new {p : List Nat} (hp : IsP p) {i : Nat} (hi : i < p.length) (h : ¬ ∃ c ∈ cyc p i, i ∈ c) {x : Nat} (hx : x ∈ orb p i) : ¬ ∃ c ∈ cyc p i, x ∈ c := by
 intro ⟨c, hc, hm⟩
 obtain ⟨s, hs, rfl⟩ := cyc_form p i c hc
 exact h ⟨_, hc, orb_meet hp (by omega) hi hm hx⟩
end Go.Proofs.YtoijcallajegfaaGreat.M
end
