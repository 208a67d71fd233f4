/- Lemmas for the row FnKept: the program's functions told as plain functions, and plain mathematics. No conditions. -/
import Derived.Lib.Bytealg
import Derived.Lib.Walk
import Derived.Test.YtoijcallajegfaaQFnKept1
section
namespace Go.Proofs.Ytoijcallajegfaa.A
open Go.RowKit Go.Proofs.YtoijcallajegfaaW.PrintWords Go.Proofs.YtoijcallajegfaaW.PrintLast Go.Proofs.YtoijcallajegfaaW.PrintMore
attribute [local go_sem] max2_int min2_int max_two min_two max_three min_three max_four min_four
set_option linter.unusedVariables false
set_option linter.unusedSimpArgs false
def Z44.f (k : Nat) (l0_0 : List Int) (l0_1 : List Int) : Option (List Int × List Int) := (some (([] : List Int) : List Int)).bind fun y491 => (if y491.length + l0_0.length < 17592186044416 then ((Z26.f k l0_0).bind fun t497 => ((Z52.f k t497 l0_1).bind fun t500 => (some ((y491 ++ l0_0), t500)))) else (none))
theorem Z44.mono : ∀ a0 a1 k, LeO (Z44.f k a0 a1) (Z44.f (k + 1) a0 a1) := by
 intro a0 a1 k
 unfold Z44.f
 repeat' first|exact Z26.mono _ _|exact Z52.mono _ _ _|exact lo_|refine LeO.ite ?_ ?_|refine LeO.bind ?_ (fun _ => ?_)
def Z44.T1 : Bool × List (List Nat × List Nat) := (true, [([], []), ([], []), ([1], [1]), ([0, 2], [0, 2]), ([], []), ([4], [4]), ([5, 3], [5]), ([], []), ([7], [7]), ([6, 8, 6], [6, 8]), ([3, 9], [3, 9]), ([10, 9, 0, 1, 2, 3, 4, 5, 6, 7, 8, 9, 10], [10])])
def Z44.B1 : List Nat := [0, 0, 2, 7, 0, 16, 63, 0, 128, 511, 1023, 2047]
theorem Z44.tab1 : rtab .any (opsOf Try.f65 1) = Z44.T1 := by kernel_rfl
theorem Z44.bits1 : waitsOk Z44.T1.2 Z44.B1 = true := by kernel_rfl
set_option maxHeartbeats 8000000 in
set_option maxRecDepth 100000 in
theorem Z44.calls (k : Nat) (A0_0 : Option Addr) (c0_0 : Nat) (l0_0 : List Int) (A0_1 : Option Addr) (c0_1 : Nat) (l0_1 : List Int) (r1 : List Int) (r2 : List Int) (w : World) (hr0_0 : Kd.C (Kd.int .i64) w A0_0 l0_0.length l0_0) (hc0_0 : l0_0.length ≤ c0_0) (hr0_1 : Kd.C (Kd.int .i64) w A0_1 l0_1.length l0_1) (hc0_1 : l0_1.length ≤ c0_1) (h : Z44.f k l0_0 l0_1 = some (r1, r2)) :
  Calls Try.prog 65 #[.agg #[.slice A0_0 l0_0.length c0_0, .slice A0_1 l0_1.length c0_1]] w fun e w' => ∃ v0_ v1_ : Value, e = .returned (.agg #[v0_, v1_]) ∧ Kd.R (Kd.int .i64) 3 w' w.heap.size (fun k_ => some k_ ≠ (v1_ : Value).ownBlock) v0_ r1 ∧ Kd.R (Kd.int .i64) 3 w' w.heap.size (fun k_ => some k_ ≠ (v0_ : Value).ownBlock) v1_ r2 ∧ Below w.heap.size w w' := by
 have hu33 := Try.underlying33
 have HR0_0 := A_ hr0_0
 have HC0_0 := A_ hc0_0
 clear hr0_0 hc0_0
 have HR0_1 := A_ hr0_1
 have HC0_1 := A_ hc0_1
 clear hr0_1 hc0_1
 have HB := A_ (Below.refl w.heap.size w)
 have H := h
 unfold Z44.f at H
 clear h
 obtain ⟨y491, hy491⟩ : ∃ y_ : List Int, y_ = (([] : List Int)) := ⟨_, rfl⟩
 replace H : (if y491.length + l0_0.length < 17592186044416 then ((Z26.f k l0_0).bind fun t497 => ((Z52.f k t497 l0_1).bind fun t500 => (some ((y491 ++ l0_0), t500)))) else (none)) = some (r1, r2) := by first | (rw [hy491]; exact H) | exact H
 have Ny491 := A_ hy491
 clear hy491
 have c2 := cp_ H
 replace H := ca_ H
 have LMc2 := A_ c2
 clear c2
 obtain ⟨y494, hy494⟩ : ∃ y_ : List Int, y_ = (y491 ++ l0_0) := ⟨_, rfl⟩
 replace H : ((Z26.f k l0_0).bind fun t497 => ((Z52.f k t497 l0_1).bind fun t500 => (some (y494, t500)))) = some (r1, r2) := by first | (rw [hy494]; exact H) | exact H
 have Ny494 := A_ hy494
 clear hy494
 obtain ⟨t497, A3, H⟩ := bi_ H
 obtain ⟨t500, A4, H⟩ := bi_ H
 simp only [Option.some.injEq, Prod.mk.injEq] at H
 obtain ⟨rfl, rfl⟩ := H
 go_enter Try.func65, Try.ntmps65
 try go_wp2_with (first | ((with_reducible refine gB_ (N := 1) rfl ?_); refine bx_ 1 #[.slice A0_0 l0_0.length c0_0, .slice A0_1 l0_1.length c0_1] 33 ?_; intro gb489 hg w5 hbox hb; have BK489 := A_ hbox; have GW489 := gw_ w hg; have GE489 := GW489; replace HB := b1_ hb; clear hb hbox hg) | ((with_reducible refine gB_ (N := 2) rfl ?_); refine bx_ 2 #[.slice none 0 0, .slice none 0 0] 33 ?_; intro gb490 hg w6 hbox hb; have BK490 := A_ hbox; have GW490 := gw_ w hg; have GE490 := GW490; replace HB := b1_ hb; have NB489_490 := gN_ BK489 hg; have NB490_489 := gP_ BK489 hg; replace BK489 := bb_ BK489 hb; clear hb hbox hg))
 replace BK489 := A_ (kB_ BK489.out)
 replace BK490 := A_ (kB_ BK490.out)
 replace HB := A_ (bC_ HB.out)
 refine start_ (n := 12) (S := fun w' => w'.cell? ⟨gb489, 0, none⟩ = some (.slice A0_0 l0_0.length c0_0) ∧ w'.cell? ⟨gb489, 1, none⟩ = some (.slice A0_1 l0_1.length c0_1)) (ds := []) (bl_ 12 0) (by kernel_rfl) rfl (by kernel_rfl) ⟨cz0_ BK489, cz1_ BK489⟩ (fun hHeld => ?_); refine with_tabW Z44.tab1 Z44.bits1 (fun HT_ HW_ => ?_)
 generalize w6.drew = w7 at BK489 BK490 HB hHeld ⊢
 refine pu_ 1 (some 4) (bl_ 12 2) HT_ ?_
 refine pu_ 4 (some 7) (bl_ 12 18) HT_ ?_
 refine pu_ 7 (some 10) (bl_ 12 146) HT_ ?_
 refine ta_ 2 (some 5) (bl_ 12 150) HT_ HW_ hHeld ?_
 refine ta_ 5 (some 8) (bl_ 12 182) HT_ HW_ hHeld ?_
 refine ta_ 8 (some 11) (bl_ 12 438) HT_ HW_ hHeld ?_
 refine on_ 0 (some 3) (bl_ 12 439) HT_ (fun K hK => ?_)
 refine Kd.R_lit_step (Kd.int .i64) _ 3 ?hg (N := 3) ?hd (xs := ([] : List Int)) (inner := []) (ok := fun _ => True) (okp := fun _ => True) ?hr ?hp (fun _ hk => hk) trivial (Below.refl _ _) (nA_ _) (by simp) ?_; (case hd => rfl); (case hg => rfl); (case hr => first | (go_simp; done) | (go_simp; rfl)); (case hp => exact (Reps.none _ _))
 intro v492 w8 ho9 hb hg_ hnew_
 clear hg_ hnew_
 (first | rw [← Ny491.out] at ho9 | (simp only [Int.reduceToNat] at ho9; rw [← Ny491.out] at ho9))
 have HO493 := rl_ w ho9
 replace BK489 := bb_ BK489 hb
 replace BK490 := bb_ BK490 hb
 replace HB := b1_ hb
 clear hb ho9
 refine hK.out _ _ ⟨cz0_ BK489, cz1_ BK489⟩ (fun hHeld => ?_)
 clear hK K
 refine no_ (some 3) ?_
 refine on_ 3 (some 6) (bl_ 12 447) HT_ (fun K hK => ?_)
 refine Kd.R_append_rows_step (Kd.int .i64) (w0 := w) w.heap.size (by rfl) (.tmp 3) (.tmp 5) 23 3 (.int .i64 0) 8 rfl Try.underlying23 info3 rfl (by decide) (by omega) v492 y491 l0_0 _ _ _ (fun _ => True) (fun _ => False) rfl rfl ?aO ?aR (fun _ _ h => h) (fun _ h => h.elim) ?aF ?aB ?aS ?aL ?_
 (case aR => exact cb_ HR0_0)
 (case aB => exact hB_)
 (case aF => exact (fun _ _ => trivial))
 (case aO => exact (rr_ HO493))
 (case aS => exact (bF_ hB_))
 (case aL => have := LMc2.out; omega)
 intro v495 w10 ho hb hg hat
 rw [← Ny494.out] at ho
 replace BK489 := A_ (blk_grown (kk_ BK489) hg (Kd.R_ne HO493.out BK489.out (by decide)))
 replace BK490 := A_ (blk_grown (kk_ BK490) hg (Kd.R_ne HO493.out BK490.out (by decide)))
 replace HB := A_ hb
 have HO496 := A_ ho
 clear HO493
 clear ho hb hg hat
 refine hK.out _ _ ⟨cz0_ BK489, cz1_ BK489⟩ (fun hHeld => ?_)
 clear hK K
 refine no_ (some 6) ?_
 refine on_ 6 (some 9) (bl_ 12 511) HT_ (fun K hK => ?_)
 refine gO_ Try.func111 #[.slice A0_0 l0_0.length c0_0] (by rfl) rfl rfl qa_ ?_
 with_reducible refine (Z26.calls k _ _ l0_0 t497 _ (cb_ HR0_0) HC0_0.out A3.out).mono ?_
 rintro e w11 ⟨v498, rfl, ho0, hb⟩
 refine ⟨_, rfl, ?_⟩
 have HO499 := A_ (rE_ (Kd.R_new' ho0 (Kd.R_lt (rr_ HO496))) (bF_ hB_))
 replace HO496 := A_ (Kd.R_elder' (rr_ HO496) (Kd.R_base ho0) hb)
 replace BK489 := bb_ BK489 hb
 replace BK490 := bb_ BK490 hb
 replace HB := b1_ hb
 clear hb ho0
 obtain ⟨Ao12, co12, eo12⟩ := Kd.R_slice HO499.out
 (first | subst eo12 | (injection eo12 with f1_ f2_ f3_; have f4_ := f1_.symm; have f5_ := f3_.symm; clear f1_ f2_ f3_; subst f4_; subst f5_))
 refine hK.out _ _ ⟨cz0_ BK489, cz1_ BK489⟩ (fun hHeld => ?_)
 clear hK K
 refine no_ (some 9) ?_
 refine on_ 9 (some 12) (bl_ 12 1023) HT_ (fun K hK => ?_)
 refine gO_ Try.func110 #[.slice Ao12 t497.length co12, .slice A0_1 l0_1.length c0_1] (by rfl) rfl rfl qa_ ?_
 with_reducible refine (Z52.calls k _ _ t497 _ _ l0_1 t500 _ (cr_ HO499) ((Kd.R_reads' HO499.out).2.1) (cb_ HR0_1) HC0_1.out A4.out).mono ?_
 rintro e w13 ⟨v501, rfl, ho0, hb⟩
 refine ⟨_, rfl, ?_⟩
 have HO502 := A_ (rE_ (Kd.R_new' (Kd.R_new' ho0 (Kd.R_lt (rr_ HO496))) (Kd.R_lt (rr_ HO499))) (bF_ hB_))
 replace HO496 := A_ (Kd.R_elder' (rr_ HO496) (Kd.R_base ho0) hb)
 replace HO499 := A_ (Kd.R_elder' (rr_ HO499) (Kd.R_base ho0) hb)
 replace BK489 := bb_ BK489 hb
 replace BK490 := bb_ BK490 hb
 replace HB := b1_ hb
 clear hb ho0
 obtain ⟨Ao14, co14, eo14⟩ := Kd.R_slice HO502.out
 (first | subst eo14 | (injection eo14 with f1_ f2_ f3_; have f4_ := f1_.symm; have f5_ := f3_.symm; clear f1_ f2_ f3_; subst f4_; subst f5_))
 obtain ⟨Ao15, co15, eo15⟩ := Kd.R_slice HO496.out
 (first | subst eo15 | (injection eo15 with f1_ f2_ f3_; have f4_ := f1_.symm; have f5_ := f3_.symm; clear f1_ f2_ f3_; subst f4_; subst f5_))
 refine hK.out _ _ ⟨cz0_ BK489, cz1_ BK489⟩ (fun hHeld => ?_)
 clear hK K
 refine no_ (some 12) ?_
 refine pu_ 10 (some 13) (bl_ 12 2047) HT_ ?_
 refine on_ 11 (none) (bl_ 12 4095) HT_ (fun K hK => ?_)
 have hs16 : w13.cell? ⟨gb490, 0, none⟩ = some (.slice none 0 0) := cz0_ BK490
 have hfs16 := kD_ BK490.out 0
 have hns16_0 := NB489_490.out
 have hms16_0 := NB490_489.out
 have hs17 : w13.cell? ⟨gb490, 1, none⟩ = some (.slice none 0 0) := cz1_ BK490
 have hfs17 := kD_ BK490.out 1
 have hns17_0 := NB489_490.out
 have hms17_0 := NB490_489.out
 refine skip_ (w1 := ?_) (by rfl) rfl ?_ ?_
 rotate_left
 ·go_simp
  rfl
 refine hK.out _ _ ⟨((cell_far (p := ⟨gb490, _, none⟩) NB489_490.out _).trans (((cell_far (p := ⟨gb490, _, none⟩) NB489_490.out _).trans (hHeld.1)))), ((cell_far (p := ⟨gb490, _, none⟩) NB489_490.out _).trans (((cell_far (p := ⟨gb490, _, none⟩) NB489_490.out _).trans (hHeld.2))))⟩ (fun hHeld => ?_)
 clear hK K
 refine done_ (done_of HT_.out (by kernel_rfl)) ?_
 try go_wp2
 refine bodyPost_ret (results_cell_row rfl _ _ gb490 33 #[.slice Ao15 y494.length co15, .slice Ao14 t500.length co14] (0, 0) _ rfl qp_ Try.underlying33 rfl (by kernel_rfl)) rfl ?_
 exact ⟨_, _, qb_, (rw_ (Kd.R_mono (fa_ HO496 BK490) (fun _ hk => hk.2))), (rw_ (Kd.R_mono (fa_ HO502 BK490) (fun _ hk => hk.1.2))), hB_⟩
def Z22.l0 : Nat → Int → List Int → Int → Option (List Int)
 | 0, _, _, _ => none
 | k + 1, x0, x3, x4 => if x4 < x0 then (if x3.length < 17592186044416 then (Z22.l0 k x0 (x3 ++ [x4]) (wrap64 (x4 + 1))) else (none)) else (some x3)
def Z22.f (k : Nat) (a0 : Int) : Option (List Int) := Z22.l0 k a0 (([] : List Int)) 0
theorem Z22.mono_l : ∀ k, (∀ y0 y1 y2, LeO (Z22.l0 k y0 y1 y2) (Z22.l0 (k + 1) y0 y1 y2))
 | 0 => fun _ _ _ r h => by simp [Z22.l0] at h
 | k + 1 => by
  have ih0 := Z22.mono_l k
  ·intro y0 y1 y2
   unfold Z22.l0
   repeat' first|exact ih0 _ _ _|exact lo_|refine LeO.ite ?_ ?_|refine LeO.bind ?_ (fun _ => ?_)
theorem Z22.mono : ∀ a0 k, LeO (Z22.f k a0) (Z22.f (k + 1) a0) := by
 intro a0 k
 have ih0 := Z22.mono_l k
 unfold Z22.f
 repeat' first|exact ih0 _ _ _|exact lo_|refine LeO.ite ?_ ?_|refine LeO.bind ?_ (fun _ => ?_)
set_option maxHeartbeats 8000000 in
set_option maxRecDepth 100000 in
theorem Z22.calls (k : Nat) (a0 : Int) (r : List Int) (w : World) (h : Z22.f k a0 = some r) :
  Calls Try.prog 112 #[.int .i64 a0] w fun e w' => ∃ v0_ : Value, e = .returned (v0_) ∧ Kd.R (Kd.int .i64) 3 w' w.heap.size (fun _ => True) v0_ r ∧ Below w.heap.size w w' := by
 have HB := A_ (Below.refl w.heap.size w)
 have H := h
 unfold Z22.f at H
 clear h
 obtain ⟨y503, hy503⟩ : ∃ y_ : List Int, y_ = (([] : List Int)) := ⟨_, rfl⟩
 replace H : (Z22.l0 k a0 y503 0) = some r := by first | (rw [hy503]; exact H) | exact H
 have Ny503 := A_ hy503
 clear hy503
 have H' := A_ H
 clear H
 go_enter Try.func112, Try.ntmps112
 go_wp2_with (first | ((with_reducible refine gB_ (N := 5) rfl ?_); refine Kd.R_lit (Kd.int .i64) _ 3 ?hg (N := 5) ?hd (xs := ([] : List Int)) (inner := []) (ok := fun _ => True) (okp := fun _ => True) ?hr ?hp (fun _ hk => hk) trivial (Below.refl _ _) (nA_ _) (by simp) ?_; (case hd => rfl); (case hg => rfl); (case hr => first | (go_simp; done) | (go_simp; rfl)); (case hp => exact (Reps.none _ _)); intro v504 w2 ho3 hb hg_ hnew_; clear hg_ hnew_; (first | rw [← Ny503.out] at ho3 | (simp only [Int.reduceToNat] at ho3; rw [← Ny503.out] at ho3)); have HO505 := rl_ w ho3; replace HB := b1_ hb; clear hb ho3))
 go_loopg [3, 4] k (fun kq v3 v4 w' => ∃ (x3_1 : List Int) (x4_1 : Int), v4 = .int .i64 x4_1 ∧ Aside0 (Z22.l0 kq a0 x3_1 x4_1 = some r) ∧ Aside0 (kq ≤ k) ∧ Aside0 (Kd.R (Kd.int .i64) 3 w' w.heap.size (fun _ => True) v3 x3_1) ∧ Aside0 (Below w.heap.size w w'))
 case atStart => exact ⟨(y503), (0), qc_, H', ⟨nA_ _⟩, ⟨(rr_ HO505)⟩, ⟨hB_⟩⟩
 case round =>
  clear H'
  obtain ⟨x3_1, x4_1, rfl, HA, HK1, HO_3, HB⟩ := hrel
  cases gk with
  | zero => exact absurd HA.out (by simp [Z22.l0])
  | succ k1 =>
   have H := HA.out
   clear HA
   simp only [Z22.l0] at H
   by_cases c4 : x4_1 < a0
   ·rw [if_pos c4] at H
    have c4b0 := oC_ c4
    clear c4
    have c5 := cp_ H
    replace H := ca_ H
    have LMc5 := A_ c5
    clear c5
    obtain ⟨y506, hy506⟩ : ∃ y_ : List Int, y_ = (x3_1 ++ [x4_1]) := ⟨_, rfl⟩
    replace H : (Z22.l0 k1 a0 y506 (wrap64 (x4_1 + 1))) = some r := by first | (rw [hy506]; exact H) | exact H
    have Ny506 := A_ hy506
    clear hy506
    have H' := A_ H
    clear H
    go_wp2_with (first | ((with_reducible refine gate_builtin (b := .append) (xs := #[.tmp 11, .tmp 13]) rfl ?_); at_builtin; refine Kd.R_append (Kd.int .i64) (w0 := w) w.heap.size rfl (.tmp 11) (.tmp 13) 23 3 (.int .i64 0) 8 rfl Try.underlying23 info3 rfl (by decide) (by omega) u3 x3_1 x4_1 [.int .i64 x4_1] (fun _ => True) (fun _ => False) rfl rfl ?aP (fun _ hk => hk.elim) ?aF ?aO ?aB ?aS ?aL ?_; (case aP => exact rfl); (case aB => exact hB_); (case aF => exact (fun _ _ => trivial)); (case aO => exact (rr_ HO_3)); (case aS => exact (bF_ hB_)); (case aL => have := LMc5.out; omega); intro v507 w6 ho hb hg hat; rw [← Ny506.out] at ho; replace HB := A_ hb; have HO508 := A_ ho; clear HO_3; clear ho hb hg hat))
    go_roundg k1
    case measure => have := HK1.out; omega
    case rel => exact ⟨(y506), (wrap64 (x4_1 + 1)), qc_, H', ⟨by have := HK1.out; omega⟩, ⟨(rr_ HO508)⟩, ⟨hB_⟩⟩
   ·rw [if_neg c4] at H
    have c4b0 := oD_ c4
    clear c4
    obtain rfl := Option.some.inj H
    go_wp2
    go_ret
    exact ⟨_, qb_, (rr_ HO_3), hB_⟩
end Go.Proofs.Ytoijcallajegfaa.A
end
section
namespace Go.Proofs.Ytoijcallajegfaa.A
open Go.RowKit Go.Proofs.YtoijcallajegfaaW.PrintWords Go.Proofs.YtoijcallajegfaaW.PrintLast Go.Proofs.YtoijcallajegfaaW.PrintMore
attribute [local go_sem] max2_int min2_int max_two min_two max_three min_three max_four min_four
set_option linter.unusedVariables false
set_option linter.unusedSimpArgs false
mutual
def Z65.j0 : Nat → Int → Int → Bool → Option (List Int × List Int × Bool)
 | 0, _, _, _ => none
 | k + 1, x0, x1, x24 => if x24 = true then (some (([] : List Int), ([] : List Int), false)) else ((Z22.f k (wrap64 ((wrap64 (x0 + x1)) - 1))).bind fun t512 => ((Z22.f k (wrap64 ((wrap64 (x0 + x1)) - 1))).bind fun t515 => (Z65.l0 k x0 x1 (wrap64 ((wrap64 (x0 + x1)) - 1)) 0 t512 t515)))
def Z65.l0 : Nat → Int → Int → Int → Int → List Int → List Int → Option (List Int × List Int × Bool)
 | 0, _, _, _, _, _, _ => none
 | k + 1, x0, x1, x6, x8, x519000, x519001 => if x8 < x0 then (if x0 = 0 then (none) else (if 0 ≤ x8 then (if x8 < (x519000.length : Int) then (Z65.l0 k x0 x1 x6 (wrap64 (x8 + 1)) (x519000.set (x8 : Int).toNat (Int.tmod (wrap64 (x8 + 1)) x0)) x519001) else (none)) else (none))) else (if x1 > 1 then (if 0 < (x519001.length : Int) then (Z65.l1 k x6 x0 x519000 (x519001.set (0 : Int).toNat x0)) else (none)) else (some (x519000, x519001, true)))
def Z65.l1 : Nat → Int → Int → List Int → List Int → Option (List Int × List Int × Bool)
 | 0, _, _, _, _ => none
 | k + 1, x6, x9, x519000, x519001 => if x9 < x6 then (if x6 = 0 then (none) else (if 0 ≤ x9 then (if x9 < (x519001.length : Int) then (Z65.l1 k x6 (wrap64 (x9 + 1)) x519000 (x519001.set (x9 : Int).toNat (Int.tmod (wrap64 (x9 + 1)) x6))) else (none)) else (none))) else (some (x519000, x519001, true))
end
def Z65.f (k : Nat) (a0 : Int) (a1 : Int) : Option (List Int × List Int × Bool) := (Z66.f a0 1 24).bind fun t510 => (if t510 = true then ((Z66.f a1 1 24).bind fun t511 => (if t511 = true then (Z65.j0 k a0 a1 (decide ((wrap64 ((wrap64 (a0 + a1)) - 1)) > 24))) else (Z65.j0 k a0 a1 true))) else (Z65.j0 k a0 a1 true))
theorem Z65.mono_l : ∀ k, (∀ y0 y1 y2, LeO (Z65.j0 k y0 y1 y2) (Z65.j0 (k + 1) y0 y1 y2)) ∧ (∀ y0 y1 y2 y3 y4 y5, LeO (Z65.l0 k y0 y1 y2 y3 y4 y5) (Z65.l0 (k + 1) y0 y1 y2 y3 y4 y5)) ∧ (∀ y0 y1 y2 y3, LeO (Z65.l1 k y0 y1 y2 y3) (Z65.l1 (k + 1) y0 y1 y2 y3))
 | 0 => ⟨fun _ _ _ r h => by simp [Z65.j0] at h, fun _ _ _ _ _ _ r h => by simp [Z65.l0] at h, fun _ _ _ _ r h => by simp [Z65.l1] at h⟩
 | k + 1 => by
  obtain ⟨ih0, ih1, ih2⟩ := Z65.mono_l k
  refine ⟨?_, ?_, ?_⟩
  ·intro y0 y1 y2
   unfold Z65.j0
   repeat' first|exact ih0 _ _ _|exact ih1 _ _ _ _ _ _|exact ih2 _ _ _ _|exact Z22.mono _ _|exact lo_|refine LeO.ite ?_ ?_|refine LeO.bind ?_ (fun _ => ?_)
  ·intro y0 y1 y2 y3 y4 y5
   unfold Z65.l0
   repeat' first|exact ih0 _ _ _|exact ih1 _ _ _ _ _ _|exact ih2 _ _ _ _|exact Z22.mono _ _|exact lo_|refine LeO.ite ?_ ?_|refine LeO.bind ?_ (fun _ => ?_)
  ·intro y0 y1 y2 y3
   unfold Z65.l1
   repeat' first|exact ih0 _ _ _|exact ih1 _ _ _ _ _ _|exact ih2 _ _ _ _|exact Z22.mono _ _|exact lo_|refine LeO.ite ?_ ?_|refine LeO.bind ?_ (fun _ => ?_)
theorem Z65.mono : ∀ a0 a1 k, LeO (Z65.f k a0 a1) (Z65.f (k + 1) a0 a1) := by
 intro a0 a1 k
 obtain ⟨ih0, ih1, ih2⟩ := Z65.mono_l k
 unfold Z65.f
 repeat' first|exact ih0 _ _ _|exact ih1 _ _ _ _ _ _|exact ih2 _ _ _ _|exact Z22.mono _ _|exact lo_|refine LeO.ite ?_ ?_|refine LeO.bind ?_ (fun _ => ?_)
def Z65.T8 : Bool × List (List Nat × List Nat) := (true, [([], []), ([0], [0]), ([], []), ([], []), ([3], [3]), ([], []), ([4, 5], [4, 5]), ([1, 2, 0, 1, 2, 3, 4, 5, 6], [1, 2]), ([7, 6, 0, 1, 2, 3, 4, 5, 6], [6, 7])])
def Z65.B8 : List Nat := [0, 1, 0, 0, 8, 0, 56, 127, 255]
theorem Z65.tab8 : rtab .any (opsOf Try.f66 8) = Z65.T8 := by kernel_rfl
theorem Z65.bits8 : waitsOk Z65.T8.2 Z65.B8 = true := by kernel_rfl
def Z65.T14 : Bool × List (List Nat × List Nat) := (true, [([], []), ([0], [0]), ([], []), ([], []), ([3], [3]), ([], []), ([4, 5], [4, 5]), ([1, 2, 0, 1, 2, 3, 4, 5, 6], [1, 2]), ([7, 6, 0, 1, 2, 3, 4, 5, 6], [6, 7])])
def Z65.B14 : List Nat := [0, 1, 0, 0, 8, 0, 56, 127, 255]
theorem Z65.tab14 : rtab .any (opsOf Try.f66 14) = Z65.T14 := by kernel_rfl
theorem Z65.bits14 : waitsOk Z65.T14.2 Z65.B14 = true := by kernel_rfl
set_option maxHeartbeats 8000000 in
set_option maxRecDepth 100000 in
theorem Z65.calls (k : Nat) (a0 : Int) (a1 : Int) (r1 : List Int) (r2 : List Int) (r3 : Bool) (w : World) (h : Z65.f k a0 a1 = some (r1, r2, r3)) :
  Calls Try.prog 66 #[.int .i64 a0, .int .i64 a1] w fun e w' => ∃ v0_ v1_ : Value, e = .returned (.tuple #[.agg #[v0_, v1_], .bool r3]) ∧ Kd.R (Kd.int .i64) 3 w' w.heap.size (fun k_ => some k_ ≠ (v1_ : Value).ownBlock) v0_ r1 ∧ Kd.R (Kd.int .i64) 3 w' w.heap.size (fun k_ => some k_ ≠ (v0_ : Value).ownBlock) v1_ r2 ∧ Below w.heap.size w w' := by
 have hu33 := Try.underlying33
 have HB := A_ (Below.refl w.heap.size w)
 have H := h
 unfold Z65.f at H
 clear h
 have HC3 := A_ H
 clear H
 go_enter Try.func66, Try.ntmps66
 go_upto_region 1 with (first | ((with_reducible refine gB_ (N := 4) rfl ?_); refine bx_ 4 #[.slice none 0 0, .slice none 0 0] 33 ?_; intro gb509 hg w4 hbox hb; have BK509 := A_ hbox; have GW509 := gw_ w hg; have GE509 := GW509; replace HB := b1_ hb; clear hb hbox hg))
 (try simp only [Act.put, sA_, sB_, sC_])
 go_cut [24] (fun v24 wc => ∃ (kq : Nat) (x24_2 : Bool), v24 = .bool x24_2 ∧ Aside0 (Z65.j0 kq a0 a1 x24_2 = some (r1, r2, r3)) ∧ Aside0 (kq ≤ k) ∧ Aside0 (wc.heap[gb509]? = some (.cells #[(.slice none 0 0), (.slice none 0 0)] 33 (0, 0))) ∧ Aside0 (Below w.heap.size w wc))
 case first =>
  have H := HC3.out
  clear HC3
  obtain ⟨t510, A5, H⟩ := bi_ H
  by_cases c6 : t510 = true
  ·subst c6
   rw [if_pos rfl] at H
   obtain ⟨t511, A7, H⟩ := bi_ H
   by_cases c8 : t511 = true
   ·subst c8
    rw [if_pos rfl] at H
    have H' := A_ H
    clear H
    go_wp2_with (first | ((with_reducible refine gA_ (f := 83) rfl ?_); refine gL_ (some 11) Try.func83 #[.int .i64 a0, .int .i64 1, .int .i64 24] rfl qa_ ?_; (with_reducible refine (Z66.calls a0 1 24 true _ A5.out).mono ?_); rintro e w' ⟨rfl, ⟨nd, rfl⟩⟩; refine ⟨_, rfl, ?_⟩) | (go_at_call 83; (with_reducible refine (Z66.calls a1 1 24 true _ A7.out).mono ?_); rintro e w' ⟨rfl, ⟨nd, rfl⟩⟩))
    go_meet
    case rel => exact ⟨_, (decide ((wrap64 ((wrap64 (a0 + a1)) - 1)) > 24)), qc_, H', ⟨qd_⟩, ⟨(kk_ BK509)⟩, ⟨hB_⟩⟩
   ·replace c8 := Bool.eq_false_iff.mpr c8
    subst c8
    have H1 : (Z65.j0 k a0 a1 true) = some (r1, r2, r3) := by rw [if_neg (show ¬ (false = true) by decide)] at H; exact H
    clear H
    have H := H1
    clear H1
    have H' := A_ H
    clear H
    go_wp2_with (first | ((with_reducible refine gA_ (f := 83) rfl ?_); refine gL_ (some 11) Try.func83 #[.int .i64 a0, .int .i64 1, .int .i64 24] rfl qa_ ?_; (with_reducible refine (Z66.calls a0 1 24 true _ A5.out).mono ?_); rintro e w' ⟨rfl, ⟨nd, rfl⟩⟩; refine ⟨_, rfl, ?_⟩) | (go_at_call 83; (with_reducible refine (Z66.calls a1 1 24 false _ A7.out).mono ?_); rintro e w' ⟨rfl, ⟨nd, rfl⟩⟩))
    go_meet
    case rel => exact ⟨_, (true), qc_, H', ⟨qd_⟩, ⟨(kk_ BK509)⟩, ⟨hB_⟩⟩
  ·replace c6 := Bool.eq_false_iff.mpr c6
   subst c6
   have H1 : (Z65.j0 k a0 a1 true) = some (r1, r2, r3) := by rw [if_neg (show ¬ (false = true) by decide)] at H; exact H
   clear H
   have H := H1
   clear H1
   have H' := A_ H
   clear H
   go_wp2_with (first | ((with_reducible refine gA_ (f := 83) rfl ?_); refine gL_ (some 11) Try.func83 #[.int .i64 a0, .int .i64 1, .int .i64 24] rfl qa_ ?_; (with_reducible refine (Z66.calls a0 1 24 false _ A5.out).mono ?_); rintro e w' ⟨rfl, ⟨nd, rfl⟩⟩; refine ⟨_, rfl, ?_⟩))
   go_meet
   case rel => exact ⟨_, (true), qc_, H', ⟨qd_⟩, ⟨(kk_ BK509)⟩, ⟨hB_⟩⟩
 case rest =>
  clear HC3
  obtain ⟨kq, x24_2, rfl, HA, HJ2, BK509, HB⟩ := hcut
  cases kq with
  | zero => exact absurd HA.out (by simp [Z65.j0])
  | succ kj2 =>
   have H := HA.out
   clear HA
   simp only [Z65.j0] at H
   by_cases c9 : x24_2 = true
   ·subst c9
    rw [if_pos rfl] at H
    simp only [Option.some.injEq, Prod.mk.injEq] at H
    obtain ⟨rfl, rfl, rfl⟩ := H
    obtain ⟨hcz10_0, hcz10_1, hfz10_0, hfz10_1⟩ := c2_ BK509
    go_wp2
    refine bodyPost_ret (results_ct rfl _ _ gb509 33 #[.slice none 0 0, .slice none 0 0] (0, 0) _ rfl qp_ Try.underlying33 rfl (by kernel_rfl)) rfl ?_
    exact ⟨_, _, qb_, by first | exact Kd.R_nil _ _ _ _ _ | exact Kd.N_nil _ _ _ _ _ | exact Kd.V_nil _ _ _ _ _ | exact Kd.Q_nil _ _ _ _ _ | exact Kd.S_nil _ _ _ _ _, by first | exact Kd.R_nil _ _ _ _ _ | exact Kd.N_nil _ _ _ _ _ | exact Kd.V_nil _ _ _ _ _ | exact Kd.Q_nil _ _ _ _ _ | exact Kd.S_nil _ _ _ _ _, hB_⟩
   ·replace c9 := Bool.eq_false_iff.mpr c9
    subst c9
    have H1 : ((Z22.f kj2 (wrap64 ((wrap64 (a0 + a1)) - 1))).bind fun t512 => ((Z22.f kj2 (wrap64 ((wrap64 (a0 + a1)) - 1))).bind fun t515 => (Z65.l0 kj2 a0 a1 (wrap64 ((wrap64 (a0 + a1)) - 1)) 0 t512 t515))) = some (r1, r2, r3) := by rw [if_neg (show ¬ (false = true) by decide)] at H; exact H
    clear H
    have H := H1
    clear H1
    obtain ⟨t512, A11, H⟩ := bi_ H
    obtain ⟨t515, A12, H⟩ := bi_ H
    have H' := A_ H
    clear H
    go_wp2_with (first | ((with_reducible refine gA_ (f := 112) rfl ?_); refine gL_ (some 31) Try.func112 #[.int .i64 (wrap64 ((wrap64 (a0 + a1)) - 1))] rfl qa_ ?_; (with_reducible refine (Z22.calls kj2 (wrap64 ((wrap64 (a0 + a1)) - 1)) t512 _ A11.out).mono ?_); rintro e w13 ⟨v513, rfl, ho0, hb⟩; refine ⟨_, rfl, ?_⟩; have HO514 := rl_ w ho0; replace BK509 := bb_ BK509 hb; replace HB := b1_ hb; clear hb ho0) | ((with_reducible refine gA_ (f := 112) rfl ?_); refine gL_ (some 33) Try.func112 #[.int .i64 (wrap64 ((wrap64 (a0 + a1)) - 1))] rfl qa_ ?_; (with_reducible refine (Z22.calls kj2 (wrap64 ((wrap64 (a0 + a1)) - 1)) t515 _ A12.out).mono ?_); rintro e w14 ⟨v516, rfl, ho0, hb⟩; refine ⟨_, rfl, ?_⟩; have HO517 := A_ (rE_ (Kd.R_new' ho0 (Kd.R_lt (rr_ HO514))) (bF_ hB_)); replace HO514 := A_ (Kd.R_elder' (rr_ HO514) (Kd.R_base ho0) hb); replace BK509 := bb_ BK509 hb; replace HB := b1_ hb; clear hb ho0; obtain ⟨Ao15, co15, eo15⟩ := Kd.R_slice HO517.out; subst eo15; obtain ⟨Ao16, co16, eo16⟩ := Kd.R_slice HO514.out; subst eo16) | ((with_reducible refine gB_ (N := 7) rfl ?_); refine bx_ 7 #[.slice none 0 0, .slice none 0 0] 33 ?_; intro gb518 hg w17 hbox hb; replace HO514 := rb_ HO514 hb; replace HO517 := rb_ HO517 hb; have BK518 := A_ hbox; have GW518 := gw_ w hg; have GE518 := GW518; replace HB := b1_ hb; have NB509_518 := gN_ BK509 hg; have NB518_509 := gP_ BK509 hg; replace BK509 := bb_ BK509 hb; clear hb hbox hg; have hnb18 := NB518_509.out; have hnc18 := NB509_518.out; obtain ⟨hcz19_0, hcz19_1, hfz19_0, hfz19_1⟩ := c2_ BK518))
    go_loopg [8] kj2 (fun kq v8 w' => ∃ (x8_2 : Int) (x519000_2 : List Int) (x519001_2 : List Int) (u519000 : Value) (u519001 : Value), v8 = .int .i64 x8_2 ∧ Aside0 (Z65.l0 kq a0 a1 (wrap64 ((wrap64 (a0 + a1)) - 1)) x8_2 x519000_2 x519001_2 = some (r1, r2, r3)) ∧ Aside0 (kq ≤ kj2) ∧ Aside0 (Kd.R (Kd.int .i64) 3 w' w.heap.size (fun k_ => some k_ ≠ (u519001 : Value).ownBlock) u519000 x519000_2) ∧ Aside0 (Kd.R (Kd.int .i64) 3 w' w.heap.size (fun k_ => some k_ ≠ (u519000 : Value).ownBlock) u519001 x519001_2) ∧ Aside0 (w'.heap[gb509]? = some (.cells #[(.slice none 0 0), (.slice none 0 0)] 33 (0, 0))) ∧ Aside0 (w'.heap[gb518]? = some (.cells #[u519000, u519001] 33 (0, 0))) ∧ Aside0 (Below w.heap.size w w'))
    case atStart => exact ⟨(0), (t512), (t515), (.slice Ao16 t512.length co16), (.slice Ao15 t515.length co15), qc_, H', ⟨nA_ _⟩, ⟨(rw_ (Kd.R_mono (fa_ HO514 BK518) (fun _ hk => hk.2)))⟩, ⟨(rw_ (Kd.R_mono (fa_ HO517 BK518) (fun _ hk => hk.2)))⟩, ⟨by (with_reducible repeat (first | refine kA_ ?_ _ | refine kB_ ?_ | refine kC_ ?_ _)); refine blk_far ?_ NB509_518.out _; (with_reducible repeat (first | refine kA_ ?_ _ | refine kB_ ?_ | refine kC_ ?_ _)); refine blk_far ?_ NB509_518.out _; (with_reducible repeat (first | refine kA_ ?_ _ | refine kB_ ?_ | refine kC_ ?_ _)); exact BK509.out⟩, ⟨qp_⟩, ⟨hB_⟩⟩
    case round =>
     clear H'
     obtain ⟨x8_2, x519000_2, x519001_2, u519000, u519001, rfl, HA, HK2, HO_519000, HO_519001, BK509, BK518, HB⟩ := hrel
     cases gk with
     | zero => exact absurd HA.out (by simp [Z65.l0])
     | succ k2 =>
      have H := HA.out
      clear HA
      simp only [Z65.l0] at H
      by_cases c20 : x8_2 < a0
      ·rw [if_pos c20] at H
       have c20b0 := oC_ c20
       clear c20
       by_cases c21 : a0 = 0
       ·rw [if_pos c21] at H
        exact absurd H (by simp)
       ·rw [if_neg c21] at H
        have c21b0 : (a0 == 0) = false := beq_eq_false_iff_ne.mpr c21
        have c21b1 : (a0 != 0) = true := bne_iff_ne.mpr c21
        have c22 := cp_ H
        replace H := ca_ H
        have c22b0 := oC_ c22
        clear c22
        have c23 := cp_ H
        replace H := ca_ H
        have c23b0 := oC_ c23
        clear c23
        obtain ⟨y519, hy519⟩ : ∃ y_ : List Int, y_ = (x519000_2.set (x8_2 : Int).toNat (Int.tmod (wrap64 (x8_2 + 1)) a0)) := ⟨_, rfl⟩
        replace H : (Z65.l0 k2 a0 a1 (wrap64 ((wrap64 (a0 + a1)) - 1)) (wrap64 (x8_2 + 1)) y519 x519001_2) = some (r1, r2, r3) := by first | (rw [hy519]; exact H) | exact H
        have Ny519 := A_ hy519
        clear hy519
        have H' := A_ H
        clear H
        try go_wp2
        replace HO_519000 := A_ (rC_ HO_519000.out)
        replace HO_519001 := A_ (rC_ HO_519001.out)
        replace BK509 := A_ (kB_ BK509.out)
        replace BK518 := A_ (kB_ BK518.out)
        replace HB := A_ (bC_ HB.out)
        have p24 : 0 ≤ (x8_2 : Int) := oB_ qe_
        have q24 : (x8_2 : Int) < ((x519000_2.length : Int) : Int) := oB_ qe_
        obtain ⟨go24, co24, eo24, gb24, gl24, cl24, HG24⟩ := Kd.R_form HO_519000.out (by omega)
        (first | cases eo24 | (injection eo24 with ea_ en_ ec_; (first | subst ea_ | (injection ea_ with ea_; subst ea_)); subst ec_; clear en_))
        have GB24 := A_ gb24
        have GG24 := A_ HG24
        clear gb24 gl24 HG24
        obtain ⟨hx24_0, hf24_0⟩ := Kd.R_celln 0 HO_519000.out (x8_2 : Int) p24 q24
        replace p24 := eq_true p24
        replace q24 := eq_true q24
        have HP26 := Kd.R_putn HO_519000.out (x8_2 : Int) (Int.tmod (wrap64 (x8_2 + 1)) a0)
        rw [← Ny519.out] at HP26
        have HQ26 := A_ HP26
        clear HP26
        refine start_ (n := 9) (S := fun w' => w'.cell? ⟨gb518, 0, none⟩ = some (.slice (some ⟨go24, 0, none⟩) x519000_2.length co24) ∧ w'.cell? ⟨gb518, 1, none⟩ = some (u519001)) (ds := [8]) (bl_ 9 0) (by kernel_rfl) rfl (by kernel_rfl) ⟨cz0_ BK518, cz1_ BK518⟩ (fun hHeld => ?_); refine with_tabW Z65.tab8 Z65.bits8 (fun HT_ HW_ => ?_)
        generalize wr.drew = w25 at HO_519000 HO_519001 BK509 BK518 HB GG24 HQ26 hf24_0 hx24_0 hHeld ⊢
        refine pu_ 0 (some 40) (bl_ 9 1) HT_ ?_
        refine pu_ 2 (some 42) (bl_ 9 5) HT_ ?_
        refine pu_ 3 (some 43) (bl_ 9 13) HT_ ?_
        refine pu_ 4 (some 44) (bl_ 9 29) HT_ ?_
        refine pu_ 5 (some 45) (bl_ 9 61) HT_ ?_
        refine pu_ 6 (some 46) (bl_ 9 125) HT_ ?_
        refine ta_ 1 (some 41) (bl_ 9 127) HT_ HW_ hHeld ?_
        refine pu_ 7 (some 47) (bl_ 9 255) HT_ ?_
        refine last_ (i := 8) (N := none) (bl_ 9 511) rfl rfl (one_of HT_.out (by kernel_rfl)) (by decide) (fun K hK => ?_)
        refine skip_ (w1 := ?_) (by rfl) rfl ?_ ?_
        rotate_left
        ·go_simp
         rfl
        refine hK.out _ _ ?_
        clear hK K
        refine done_ (done_of HT_.out (by kernel_rfl)) ?_
        try go_wp2
        go_roundg k2
        case measure => have := HJ2.out; have := HK2.out; omega
        case rel => exact ⟨(wrap64 (x8_2 + 1)), (y519), (x519001_2), (.slice (some ⟨go24, 0, none⟩) x519000_2.length co24), (u519001), qc_, H', ⟨by have := HJ2.out; have := HK2.out; omega⟩, ⟨(rr_ HQ26)⟩, ⟨(rw_ (Kd.R_mono (Kd.R_far (p := ⟨go24, (x8_2 : Int).toNat, none⟩) (Kd.R_mono HO_519001.out (fun k_ hk => (⟨hk, fun e_ => hk (by rw [e_]; rfl)⟩ : _ ∧ k_ ≠ go24))) (fun _ hk => hk.2) (.int .i64 (Int.tmod (wrap64 (x8_2 + 1)) a0))) (fun _ hk => hk.1)))⟩, ⟨by (with_reducible repeat (first | refine kA_ ?_ _ | refine kB_ ?_ | refine kC_ ?_ _)); refine blk_far ?_ (by have h_ := Kd.R_ne HO_519000.out BK509.out (by decide); intro e_; exact h_ (by rw [e_]; rfl)) _; (with_reducible repeat (first | refine kA_ ?_ _ | refine kB_ ?_ | refine kC_ ?_ _)); exact BK509.out⟩, ⟨by (with_reducible repeat (first | refine kA_ ?_ _ | refine kB_ ?_ | refine kC_ ?_ _)); refine blk_far ?_ (by have h_ := Kd.R_ne HO_519000.out BK518.out (by decide); intro e_; exact h_ (by rw [e_]; rfl)) _; (with_reducible repeat (first | refine kA_ ?_ _ | refine kB_ ?_ | refine kC_ ?_ _)); exact BK518.out⟩, ⟨by repeat (first | (with_reducible first | exact HB.out | apply bA_ | apply bB_ | apply bC_ | refine bD_ ?_ GB24.out | refine bD_ ?_ GE509.out | refine bD_ ?_ GE518.out) | exact HB.out)⟩⟩
      ·rw [if_neg c20] at H
       have c20b0 := oD_ c20
       clear c20
       by_cases c27 : a1 > 1
       ·rw [if_pos c27] at H
        have c27b0 : decide (1 < a1) = true := oC_ c27
        clear c27
        have c28 := cp_ H
        replace H := ca_ H
        have c28b0 := oC_ c28
        have c28b1 : decide (0 < x519001_2.length) = true := oC_ (by omega)
        clear c28
        obtain ⟨y520, hy520⟩ : ∃ y_ : List Int, y_ = (x519001_2.set (0 : Int).toNat a0) := ⟨_, rfl⟩
        replace H : (Z65.l1 k2 (wrap64 ((wrap64 (a0 + a1)) - 1)) a0 x519000_2 y520) = some (r1, r2, r3) := by first | (rw [hy520]; exact H) | exact H
        have Ny520 := A_ hy520
        clear hy520
        have H' := A_ H
        clear H
        have hnb30 := NB518_509.out
        have hnc30 := NB509_518.out
        obtain ⟨hcz31_0, hcz31_1, hfz31_0, hfz31_1⟩ := c2_ BK518
        have p29 : 0 ≤ (0 : Int) := (by omega)
        have q29 : (0 : Int) < ((x519001_2.length : Int) : Int) := oB_ qe_
        have qi29 : (0 < x519001_2.length) = True := eq_true (by omega)
        obtain ⟨go29, co29, eo29, gb29, gl29, cl29, HG29⟩ := Kd.R_form HO_519001.out (by omega)
        (first | cases eo29 | (injection eo29 with ea_ en_ ec_; (first | subst ea_ | (injection ea_ with ea_; subst ea_)); subst ec_; clear en_))
        have GB29 := A_ gb29
        have GG29 := A_ HG29
        clear gb29 gl29 HG29
        obtain ⟨hx29_0, hf29_0⟩ := Kd.R_celln 0 HO_519001.out (0 : Int) p29 q29
        (try rw [show ((0 : Int)).toNat = 0 from rfl] at hx29_0)
        (try simp only [Nat.reduceMul, Nat.zero_mul, Nat.zero_add, Nat.reduceAdd] at hx29_0)
        (try rw [show ((0 : Int)).toNat = 0 from rfl] at hf29_0)
        (try simp only [Nat.reduceMul, Nat.zero_mul, Nat.zero_add, Nat.reduceAdd] at hf29_0)
        replace p29 := eq_true p29
        replace q29 := eq_true q29
        have HP32 := Kd.R_putg HO_519001.out (0 : Int) a0
        go_wp2_with (first | ((with_reducible refine gate_store (t := 3) (p := 53) rfl ?_); refine store_event (t := 3) (p := 53) (v := ?vo_w33) (w1 := (wr.setCell ⟨go29, (0 : Int).toNat, none⟩ (.int .i64 a0))) ?hg ?ho ?hn ?hr ?_; (case ho => rfl); (case hg => rfl); (case hn => rfl); (case hr => first | (go_simp; done) | (go_simp; rfl)); intro w33 hw; have hg : wr.grownBy w33 (some go29) := (by rw [hw]; exact HP32.2); have hp_ : Kd.R (Kd.int .i64) 3 w33 w.heap.size (fun k_ => some k_ ≠ (u519000 : Value).ownBlock) (.slice (some ⟨go29, 0, none⟩) x519001_2.length co29) y520 := (by rw [hw, Ny520.out]; exact HP32.1); clear HP32; replace HO_519000 := A_ (Kd.R_after (v := (.slice (some ⟨go29, 0, none⟩) x519001_2.length co29)) (v1 := (.slice (some ⟨go29, 0, none⟩) x519001_2.length co29)) (ok := (fun _ => True)) (rw_ (Kd.R_mono HO_519000.out (fun _ hk => ⟨trivial, hk⟩))) hg (.inl rfl)); replace BK509 := A_ (blk_grown (kk_ BK509) hg (Kd.R_ne HO_519001.out BK509.out (by decide))); replace BK518 := A_ (blk_grown (kk_ BK518) hg (Kd.R_ne HO_519001.out BK518.out (by decide))); replace HO_519001 := A_ (hp_); replace HB := A_ ((by rw [hw]; exact bD_ (HB.out) GB29.out : Below w.heap.size w w33)); clear hg hw hp_))
        go_loopg [9] k2 (fun kq v9 w' => ∃ (x9_3 : Int) (x519000_3 : List Int) (x519001_3 : List Int) (u519000 : Value) (u519001 : Value), v9 = .int .i64 x9_3 ∧ Aside0 (Z65.l1 kq (wrap64 ((wrap64 (a0 + a1)) - 1)) x9_3 x519000_3 x519001_3 = some (r1, r2, r3)) ∧ Aside0 (kq ≤ k2) ∧ Aside0 (Kd.R (Kd.int .i64) 3 w' w.heap.size (fun k_ => some k_ ≠ (u519001 : Value).ownBlock) u519000 x519000_3) ∧ Aside0 (Kd.R (Kd.int .i64) 3 w' w.heap.size (fun k_ => some k_ ≠ (u519000 : Value).ownBlock) u519001 x519001_3) ∧ Aside0 (w'.heap[gb509]? = some (.cells #[(.slice none 0 0), (.slice none 0 0)] 33 (0, 0))) ∧ Aside0 (w'.heap[gb518]? = some (.cells #[u519000, u519001] 33 (0, 0))) ∧ Aside0 (Below w.heap.size w w'))
        case atStart => exact ⟨(a0), (x519000_2), (y520), (u519000), (.slice (some ⟨go29, 0, none⟩) x519001_2.length co29), qc_, H', ⟨nA_ _⟩, ⟨(rw_ (Kd.R_mono HO_519000.out (fun _ hk => hk.2)))⟩, ⟨(rr_ HO_519001)⟩, ⟨(kk_ BK509)⟩, ⟨(kk_ BK518)⟩, ⟨hB_⟩⟩
        case round =>
         clear H'
         obtain ⟨x9_3, x519000_3, x519001_3, u519000, u519001, rfl, HA, HK3, HO_519000, HO_519001, BK509, BK518, HB⟩ := hrel
         cases gk with
         | zero => exact absurd HA.out (by simp [Z65.l1])
         | succ k3 =>
          have H := HA.out
          clear HA
          simp only [Z65.l1] at H
          by_cases c34 : x9_3 < (wrap64 ((wrap64 (a0 + a1)) - 1))
          ·rw [if_pos c34] at H
           have c34b0 := oC_ c34
           clear c34
           by_cases c35 : (wrap64 ((wrap64 (a0 + a1)) - 1)) = 0
           ·rw [if_pos c35] at H
            exact absurd H (by simp)
           ·rw [if_neg c35] at H
            have c35b0 : ((wrap64 ((wrap64 (a0 + a1)) - 1)) == 0) = false := beq_eq_false_iff_ne.mpr c35
            have c35b1 : ((wrap64 ((wrap64 (a0 + a1)) - 1)) != 0) = true := bne_iff_ne.mpr c35
            have c36 := cp_ H
            replace H := ca_ H
            have c36b0 := oC_ c36
            clear c36
            have c37 := cp_ H
            replace H := ca_ H
            have c37b0 := oC_ c37
            clear c37
            obtain ⟨y521, hy521⟩ : ∃ y_ : List Int, y_ = (x519001_3.set (x9_3 : Int).toNat (Int.tmod (wrap64 (x9_3 + 1)) (wrap64 ((wrap64 (a0 + a1)) - 1)))) := ⟨_, rfl⟩
            replace H : (Z65.l1 k3 (wrap64 ((wrap64 (a0 + a1)) - 1)) (wrap64 (x9_3 + 1)) x519000_3 y521) = some (r1, r2, r3) := by first | (rw [hy521]; exact H) | exact H
            have Ny521 := A_ hy521
            clear hy521
            have H' := A_ H
            clear H
            try go_wp2
            replace HO_519000 := A_ (rC_ HO_519000.out)
            replace HO_519001 := A_ (rC_ HO_519001.out)
            replace BK509 := A_ (kB_ BK509.out)
            replace BK518 := A_ (kB_ BK518.out)
            replace HB := A_ (bC_ HB.out)
            have p38 : 0 ≤ (x9_3 : Int) := oB_ qe_
            have q38 : (x9_3 : Int) < ((x519001_3.length : Int) : Int) := oB_ qe_
            obtain ⟨go38, co38, eo38, gb38, gl38, cl38, HG38⟩ := Kd.R_form HO_519001.out (by omega)
            (first | cases eo38 | (injection eo38 with ea_ en_ ec_; (first | subst ea_ | (injection ea_ with ea_; subst ea_)); subst ec_; clear en_))
            have GB38 := A_ gb38
            have GG38 := A_ HG38
            clear gb38 gl38 HG38
            obtain ⟨hx38_0, hf38_0⟩ := Kd.R_celln 0 HO_519001.out (x9_3 : Int) p38 q38
            replace p38 := eq_true p38
            replace q38 := eq_true q38
            have HP40 := Kd.R_putn HO_519001.out (x9_3 : Int) (Int.tmod (wrap64 (x9_3 + 1)) (wrap64 ((wrap64 (a0 + a1)) - 1)))
            rw [← Ny521.out] at HP40
            have HQ40 := A_ HP40
            clear HP40
            refine start_ (n := 9) (S := fun w' => w'.cell? ⟨gb518, 0, none⟩ = some (u519000) ∧ w'.cell? ⟨gb518, 1, none⟩ = some (.slice (some ⟨go38, 0, none⟩) x519001_3.length co38)) (ds := [8]) (bl_ 9 0) (by kernel_rfl) rfl (by kernel_rfl) ⟨cz0_ BK518, cz1_ BK518⟩ (fun hHeld => ?_); refine with_tabW Z65.tab14 Z65.bits14 (fun HT_ HW_ => ?_)
            generalize wr.drew = w39 at HO_519000 HO_519001 BK509 BK518 HB GG38 HQ40 hf38_0 hx38_0 hHeld ⊢
            refine pu_ 0 (some 60) (bl_ 9 1) HT_ ?_
            refine pu_ 2 (some 62) (bl_ 9 5) HT_ ?_
            refine pu_ 3 (some 63) (bl_ 9 13) HT_ ?_
            refine pu_ 4 (some 64) (bl_ 9 29) HT_ ?_
            refine pu_ 5 (some 65) (bl_ 9 61) HT_ ?_
            refine pu_ 6 (some 66) (bl_ 9 125) HT_ ?_
            refine ta_ 1 (some 61) (bl_ 9 127) HT_ HW_ hHeld ?_
            refine pu_ 7 (some 67) (bl_ 9 255) HT_ ?_
            refine last_ (i := 8) (N := none) (bl_ 9 511) rfl rfl (one_of HT_.out (by kernel_rfl)) (by decide) (fun K hK => ?_)
            refine skip_ (w1 := ?_) (by rfl) rfl ?_ ?_
            rotate_left
            ·go_simp
             rfl
            refine hK.out _ _ ?_
            clear hK K
            refine done_ (done_of HT_.out (by kernel_rfl)) ?_
            try go_wp2
            go_roundg k3
            case measure => have := HJ2.out; have := HK2.out; have := HK3.out; omega
            case rel => exact ⟨(wrap64 (x9_3 + 1)), (x519000_3), (y521), (u519000), (.slice (some ⟨go38, 0, none⟩) x519001_3.length co38), qc_, H', ⟨by have := HJ2.out; have := HK2.out; have := HK3.out; omega⟩, ⟨(rw_ (Kd.R_mono (Kd.R_far (p := ⟨go38, (x9_3 : Int).toNat, none⟩) (Kd.R_mono HO_519000.out (fun k_ hk => (⟨hk, fun e_ => hk (by rw [e_]; rfl)⟩ : _ ∧ k_ ≠ go38))) (fun _ hk => hk.2) (.int .i64 (Int.tmod (wrap64 (x9_3 + 1)) (wrap64 ((wrap64 (a0 + a1)) - 1))))) (fun _ hk => hk.1)))⟩, ⟨(rr_ HQ40)⟩, ⟨by (with_reducible repeat (first | refine kA_ ?_ _ | refine kB_ ?_ | refine kC_ ?_ _)); refine blk_far ?_ (by have h_ := Kd.R_ne HO_519001.out BK509.out (by decide); intro e_; exact h_ (by rw [e_]; rfl)) _; (with_reducible repeat (first | refine kA_ ?_ _ | refine kB_ ?_ | refine kC_ ?_ _)); exact BK509.out⟩, ⟨by (with_reducible repeat (first | refine kA_ ?_ _ | refine kB_ ?_ | refine kC_ ?_ _)); refine blk_far ?_ (by have h_ := Kd.R_ne HO_519001.out BK518.out (by decide); intro e_; exact h_ (by rw [e_]; rfl)) _; (with_reducible repeat (first | refine kA_ ?_ _ | refine kB_ ?_ | refine kC_ ?_ _)); exact BK518.out⟩, ⟨by repeat (first | (with_reducible first | exact HB.out | apply bA_ | apply bB_ | apply bC_ | refine bD_ ?_ GB38.out | refine bD_ ?_ GE509.out | refine bD_ ?_ GE518.out) | exact HB.out)⟩⟩
          ·rw [if_neg c34] at H
           have c34b0 := oD_ c34
           clear c34
           simp only [Option.some.injEq, Prod.mk.injEq] at H
           obtain ⟨rfl, rfl, rfl⟩ := H
           have hnb41 := NB518_509.out
           have hnc41 := NB509_518.out
           obtain ⟨hcz42_0, hcz42_1, hfz42_0, hfz42_1⟩ := c2_ BK518
           obtain ⟨Ao43, co43, eo43⟩ := Kd.R_slice HO_519000.out
           subst eo43
           obtain ⟨hcz44_0, hcz44_1, hfz44_0, hfz44_1⟩ := c2_ BK509
           obtain ⟨Ao45, co45, eo45⟩ := Kd.R_slice HO_519001.out
           subst eo45
           go_wp2
           refine bodyPost_ret (results_ct rfl _ _ gb509 33 #[.slice Ao43 x519000_3.length co43, .slice Ao45 x519001_3.length co45] (0, 0) _ rfl qp_ Try.underlying33 rfl (by kernel_rfl)) rfl ?_
           exact ⟨_, _, qb_, (rw_ (fa_ HO_519000 BK509)), (rw_ (fa_ HO_519001 BK509)), hB_⟩
       ·rw [if_neg c27] at H
        have c27b0 : decide (1 < a1) = false := oD_ c27
        clear c27
        simp only [Option.some.injEq, Prod.mk.injEq] at H
        obtain ⟨rfl, rfl, rfl⟩ := H
        have hnb46 := NB518_509.out
        have hnc46 := NB509_518.out
        obtain ⟨hcz47_0, hcz47_1, hfz47_0, hfz47_1⟩ := c2_ BK518
        obtain ⟨Ao48, co48, eo48⟩ := Kd.R_slice HO_519000.out
        subst eo48
        obtain ⟨hcz49_0, hcz49_1, hfz49_0, hfz49_1⟩ := c2_ BK509
        obtain ⟨Ao50, co50, eo50⟩ := Kd.R_slice HO_519001.out
        subst eo50
        go_wp2
        refine bodyPost_ret (results_ct rfl _ _ gb509 33 #[.slice Ao48 x519000_2.length co48, .slice Ao50 x519001_2.length co50] (0, 0) _ rfl qp_ Try.underlying33 rfl (by kernel_rfl)) rfl ?_
        exact ⟨_, _, qb_, (rw_ (fa_ HO_519000 BK509)), (rw_ (fa_ HO_519001 BK509)), hB_⟩
end Go.Proofs.Ytoijcallajegfaa.A
end
section
namespace Go.Proofs.Ytoijcallajegfaa.A
open Go.RowKit Go.Proofs.YtoijcallajegfaaW.PrintWords Go.Proofs.YtoijcallajegfaaW.PrintLast Go.Proofs.YtoijcallajegfaaW.PrintMore
attribute [local go_sem] max2_int min2_int max_two min_two max_three min_three max_four min_four
set_option linter.unusedVariables false
set_option linter.unusedSimpArgs false
def Z51.l0 : Nat → Int → List Int → Int → List Int → Int → Int → Option (List Int × Int × Int)
 | 0, _, _, _, _, _, _ => none
 | k + 1, x1, x5, x6, x1000, x1001, x1002 => if x6 < x1 then ((Z42.f x1000 x1001 x1002 (wrap64 (x6 + 1))).bind fun bt431 => (if x5.length < 17592186044416 then ((some (x5 ++ [x6] : List Int)).bind fun y434 => (if 0 ≤ bt431.1 then (if bt431.1 < (y434.length : Int) then (if 0 ≤ x6 then (if x6 < (y434.length : Int) then (Z51.l0 k x1 ((y434.set (x6 : Int).toNat (rd y434 bt431.1)).set (bt431.1 : Int).toNat x6) (wrap64 (x6 + 1)) x1000 bt431.2.1 bt431.2.2) else (none)) else (none)) else (none)) else (none))) else (none))) else (some (x5, x1001, x1002))
def Z51.f (k : Nat) (s0_0 : List Int) (s0_1 : Int) (s0_2 : Int) (a1 : Int) : Option (List Int × Int × Int) := Z51.l0 k a1 (([] : List Int)) 0 s0_0 s0_1 s0_2
theorem Z51.mono_l : ∀ k, (∀ y0 y1 y2 y3 y4 y5, LeO (Z51.l0 k y0 y1 y2 y3 y4 y5) (Z51.l0 (k + 1) y0 y1 y2 y3 y4 y5))
 | 0 => fun _ _ _ _ _ _ r h => by simp [Z51.l0] at h
 | k + 1 => by
  have ih0 := Z51.mono_l k
  ·intro y0 y1 y2 y3 y4 y5
   unfold Z51.l0
   repeat' first|exact ih0 _ _ _ _ _ _|exact lo_|refine LeO.ite ?_ ?_|refine LeO.bind ?_ (fun _ => ?_)
theorem Z51.mono : ∀ a0 a1 a2 a3 k, LeO (Z51.f k a0 a1 a2 a3) (Z51.f (k + 1) a0 a1 a2 a3) := by
 intro a0 a1 a2 a3 k
 have ih0 := Z51.mono_l k
 unfold Z51.f
 repeat' first|exact ih0 _ _ _ _ _ _|exact lo_|refine LeO.ite ?_ ?_|refine LeO.bind ?_ (fun _ => ?_)
set_option maxHeartbeats 8000000 in
set_option maxRecDepth 100000 in
theorem Z51.calls (k : Nat) (g : Nat) (s0_0 : List Int) (s0_1 : Int) (s0_2 : Int) (a1 : Int) (r1 : List Int) (r2 : Int) (r3 : Int) (w0 w : World) (hI : IsS102 w0 w g s0_0 s0_1 s0_2) (hB : Below w0.heap.size w0 w) (h : Z51.f k s0_0 s0_1 s0_2 a1 = some (r1, r2, r3)) :
  Calls Try.prog 57 #[.pointer (some ⟨g, 0, none⟩), .int .i64 a1] w fun e w' => ∃ v0_ : Value, e = .returned (v0_) ∧ Kd.R (Kd.int .i64) 3 w' w.heap.size (fun _ => True) v0_ r1 ∧ IsS102 w0 w' g s0_0 r2 r3 ∧ Below w0.heap.size w0 w' ∧ KeepBut w w' g none := by
 have HI0 := A_ hI
 have HK := A_ (KeepBut.refl w g none)
 have HL := A_ hB.size
 clear hI
 have HW0 := A_ hB.size
 have HB := A_ hB
 clear hB
 have H := h
 unfold Z51.f at H
 clear h
 obtain ⟨y428, hy428⟩ : ∃ y_ : List Int, y_ = (([] : List Int)) := ⟨_, rfl⟩
 replace H : (Z51.l0 k a1 y428 0 s0_0 s0_1 s0_2) = some (r1, r2, r3) := by first | (rw [hy428]; exact H) | exact H
 have Ny428 := A_ hy428
 clear hy428
 have H' := A_ H
 clear H
 go_enter Try.func57, Try.ntmps57
 go_wp2_with (first | ((with_reducible refine gB_ (N := 8) rfl ?_); refine Kd.R_lit (Kd.int .i64) _ 3 ?hg (N := 8) ?hd (xs := ([] : List Int)) (inner := []) (ok := fun _ => True) (okp := fun _ => True) ?hr ?hp (fun _ hk => hk) trivial (Below.refl _ _) (nA_ _) (by simp) ?_; (case hd => rfl); (case hg => rfl); (case hr => first | (go_simp; done) | (go_simp; rfl)); (case hp => exact (Reps.none _ _)); intro v429 w3 ho4 hb hg_ hnew_; clear hg_ hnew_; (first | rw [← Ny428.out] at ho4 | (simp only [Int.reduceToNat] at ho4; rw [← Ny428.out] at ho4)); have HO430 := A_ (rE_ ho4 (keep_size (w := w) (g := g) (row := none) hK_)); replace HK := A_ (KeepBut.trans hK_ (KeepBut.of_below hb g none) (.inl rfl)); replace HB := b2_ hb; replace HI0 := A_ (IsS102.below hI_IsS102_HI0 hb); clear hb ho4))
 go_loopg [5, 6] k (fun kq v5 v6 w' => ∃ (x5_1 : List Int) (x6_1 : Int) (x1001_1 : Int) (x1002_1 : Int), v6 = .int .i64 x6_1 ∧ Aside0 (Z51.l0 kq a1 x5_1 x6_1 s0_0 x1001_1 x1002_1 = some (r1, r2, r3)) ∧ Aside0 (kq ≤ k) ∧ Aside0 (Kd.R (Kd.int .i64) 3 w' w.heap.size (fun _ => True) v5 x5_1) ∧ Aside0 (IsS102 w0 w' g s0_0 x1001_1 x1002_1) ∧ Aside0 (KeepBut w w' g none) ∧ Aside0 (Below w0.heap.size w0 w'))
 case atStart => exact ⟨(y428), (0), (s0_1), (s0_2), qc_, H', ⟨nA_ _⟩, ⟨(rr_ HO430)⟩, ⟨hI_IsS102_HI0⟩, ⟨hK_⟩, ⟨hBI_⟩⟩
 case round =>
  clear H'
  obtain ⟨x5_1, x6_1, x1001_1, x1002_1, rfl, HA, HK1, HO_5, HI0, HK, HB⟩ := hrel
  cases gk with
  | zero => exact absurd HA.out (by simp [Z51.l0])
  | succ k1 =>
   have H := HA.out
   clear HA
   simp only [Z51.l0] at H
   by_cases c5 : x6_1 < a1
   ·rw [if_pos c5] at H
    have c5b0 := oC_ c5
    clear c5
    obtain ⟨⟨t431, t432, t433⟩, A6, H⟩ := bi_ H
    try dsimp only at H
    have c7 := cp_ H
    replace H := ca_ H
    have LMc7 := A_ c7
    clear c7
    obtain ⟨y434, hy434⟩ : ∃ y_ : List Int, y_ = (x5_1 ++ [x6_1]) := ⟨_, rfl⟩
    replace H : (if 0 ≤ t431 then (if t431 < (y434.length : Int) then (if 0 ≤ x6_1 then (if x6_1 < (y434.length : Int) then (Z51.l0 k1 a1 ((y434.set (x6_1 : Int).toNat (rd y434 t431)).set (t431 : Int).toNat x6_1) (wrap64 (x6_1 + 1)) s0_0 t432 t433) else (none)) else (none)) else (none)) else (none)) = some (r1, r2, r3) := by first | (rw [hy434]; exact H) | exact H
    have Ny434 := A_ hy434
    clear hy434
    have c8 := cp_ H
    replace H := ca_ H
    have c8b0 := oC_ c8
    clear c8
    have c9 := cp_ H
    replace H := ca_ H
    have c9b0 := oC_ c9
    clear c9
    have c10 := cp_ H
    replace H := ca_ H
    have c10b0 := oC_ c10
    clear c10
    have c11 := cp_ H
    replace H := ca_ H
    have c11b0 := oC_ c11
    clear c11
    obtain ⟨y438, hy438⟩ : ∃ y_ : List Int, y_ = (y434.set (x6_1 : Int).toNat (rd y434 t431)) := ⟨_, rfl⟩
    replace H : (Z51.l0 k1 a1 (y438.set (t431 : Int).toNat x6_1) (wrap64 (x6_1 + 1)) s0_0 t432 t433) = some (r1, r2, r3) := by first | (rw [hy438]; exact H) | exact H
    have Ny438 := A_ hy438
    clear hy438
    obtain ⟨y439, hy439⟩ : ∃ y_ : List Int, y_ = (y438.set (t431 : Int).toNat x6_1) := ⟨_, rfl⟩
    replace H : (Z51.l0 k1 a1 y439 (wrap64 (x6_1 + 1)) s0_0 t432 t433) = some (r1, r2, r3) := by first | (rw [hy439]; exact H) | exact H
    have Ny439 := A_ hy439
    clear hy439
    have H' := A_ H
    clear H
    go_wp2_with (first | ((with_reducible refine gA_ (f := 63) rfl ?_); refine gL_ (some 17) Try.func63 #[.pointer (some ⟨g, 0, none⟩), .int .i64 (wrap64 (x6_1 + 1))] rfl qa_ ?_; (with_reducible refine (Z42.calls g s0_0 x1001_1 x1002_1 (wrap64 (x6_1 + 1)) t431 t432 t433 w0 _ ?side1 ?side2 A6.out).mono ?_); (case side1 => repeat (first | (with_reducible first | exact HI0.out | apply IsS102.alloc | apply IsS102.drewN | apply IsS102.drew | apply IsS102.set_1 | apply IsS102.set_2) | exact HI0.out)); (case side2 => repeat (first | (with_reducible first | exact HB.out | apply bA_ | apply bB_ | apply bC_ | refine bD_ ?_ (IsS102.ge HI0.out)) | exact HB.out)); rintro e w14 ⟨rfl, hi, hb, hk⟩; refine ⟨_, rfl, ?_⟩; replace HO_5 := A_ (Kd.R_mono (Kd.R_keep (IsS102.apart (show IsS102 w0 _ g s0_0 x1001_1 x1002_1 from hI_IsS102_HI0) (rr_ HO_5) (by decide)) hk (fun _ h => h.2)) (fun _ h => h.1)); replace HK := A_ (KeepBut.trans hK_ hk (.inl rfl)); replace HB := A_ hb; replace HI0 := A_ hi; clear hb hk hi) | ((with_reducible refine gate_builtin (b := .append) (xs := #[.tmp 18, .tmp 20]) rfl ?_); at_builtin; refine Kd.R_append (Kd.int .i64) w.heap.size rfl (.tmp 18) (.tmp 20) 23 3 (.int .i64 0) 8 rfl Try.underlying23 info3 rfl (by decide) (by omega) u5 x5_1 x6_1 [.int .i64 x6_1] (fun _ => True) (fun _ => False) rfl rfl ?aP (fun _ hk => hk.elim) ?aF ?aO (Below.refl _ _) ?aS ?aL ?_; (case aP => exact rfl); (case aF => exact (fun _ _ => trivial)); (case aO => exact (rr_ HO_5)); (case aS => exact (keep_size (w := w) (g := g) (row := none) hK_)); (case aL => have := LMc7.out; omega); intro v435 w15 ho hb hg hat; rw [← Ny434.out] at ho; replace HB := A_ (below_weaken hBI_ HL.out hb); replace HI0 := A_ (IsS102.grown hI_IsS102_HI0 hg (IsS102.own_ne HI0.out HO_5.out (by decide))); replace HK := A_ (KeepBut.trans hK_ (KeepBut.of_grown hg g) (Kd.R_base2 HO_5.out)); have HO436 := A_ ho; clear HO_5; clear ho hb hg hat; obtain ⟨Ao16, co16, eo16⟩ := Kd.R_slice HO436.out; subst eo16; have p437 : 0 ≤ (t431 : Int) := oB_ qe_; have q437 : t431 < (y434.length : Int) := oB_ qe_; obtain ⟨ad437, e437, hx437_0⟩ := Kd.at_int (Kd.R_reads' HO436.out).2.2 t431 p437 q437; cases e437; replace p437 := eq_true p437; replace q437 := eq_true q437; have p12 : 0 ≤ (x6_1 : Int) := oB_ qe_; have q12 : (x6_1 : Int) < ((y434.length : Int) : Int) := oB_ qe_; obtain ⟨go12, co12, eo12, gb12, gl12, cl12, HG12⟩ := Kd.R_form HO436.out (by omega); (first | cases eo12 | (injection eo12 with ea_ en_ ec_; (first | subst ea_ | (injection ea_ with ea_; subst ea_)); subst ec_; clear en_)); have GB12 := A_ gb12; have GG12 := A_ HG12; clear gb12 gl12 HG12; (first | simp only [add_plain] at hx437_0 | skip); obtain ⟨hx12_0, hf12_0⟩ := Kd.R_celln 0 HO436.out (x6_1 : Int) p12 q12; replace p12 := eq_true p12; replace q12 := eq_true q12; obtain ⟨hy17_, hz17_⟩ := Kd.R_celln 0 HO436.out (x6_1 : Int) (oB_ qe_) (oB_ qe_); have HP17 := Kd.R_putg HO436.out (x6_1 : Int) (rd y434 t431)) | ((with_reducible refine gate_store (t := 3) (p := 28) rfl ?_); refine store_event (t := 3) (p := 28) (v := ?vo_w18) (w1 := (w15.setCell ⟨go12, (x6_1 : Int).toNat, none⟩ (.int .i64 (rd y434 t431)))) ?hg ?ho ?hn ?hr ?_; (case ho => rfl); (case hg => rfl); (case hn => rfl); (case hr => first | (go_simp; done) | (go_simp; rfl)); intro w18 hw; have hg : w15.grownBy w18 (some go12) := (by rw [hw]; exact HP17.2); have hp_ : Kd.R (Kd.int .i64) 3 w18 w.heap.size (fun _ => True) (.slice (some ⟨go12, 0, none⟩) y434.length co16) y438 := (by rw [hw, Ny438.out]; exact HP17.1); clear HP17; replace HI0 := A_ (IsS102.grown hI_IsS102_HI0 hg (IsS102.own_ne HI0.out HO436.out (by decide))); replace HB := A_ ((by rw [hw]; exact bD_ (HB.out) (Nat.le_trans HL.out GB12.out) : Below w0.heap.size w0 w18)); replace HK := A_ (KeepBut.trans hK_ (KeepBut.of_grown hg g) (Kd.R_base2 HO436.out)); replace HO436 := A_ (hp_); clear hg hw hp_; have p13 : 0 ≤ (t431 : Int) := oB_ qe_; have q13 : (t431 : Int) < ((y434.length : Int) : Int) := oB_ qe_; obtain ⟨hx13_0, hf13_0⟩ := Kd.R_celln 0 HO436.out (t431 : Int) p13 q13; replace p13 := eq_true p13; replace q13 := eq_true q13; obtain ⟨hy19_, hz19_⟩ := Kd.R_celln 0 HO436.out (t431 : Int) (oB_ qe_) (oB_ qe_); have HP19 := Kd.R_putg HO436.out (t431 : Int) x6_1) | ((with_reducible refine gate_store (t := 3) (p := 32) rfl ?_); refine store_event (t := 3) (p := 32) (v := ?vo_w20) (w1 := (w18.setCell ⟨go12, (t431 : Int).toNat, none⟩ (.int .i64 x6_1))) ?hg ?ho ?hn ?hr ?_; (case ho => rfl); (case hg => rfl); (case hn => rfl); (case hr => first | (go_simp; done) | (go_simp; rfl)); intro w20 hw; have hg : w18.grownBy w20 (some go12) := (by rw [hw]; exact HP19.2); have hp_ : Kd.R (Kd.int .i64) 3 w20 w.heap.size (fun _ => True) (.slice (some ⟨go12, 0, none⟩) y434.length co16) y439 := (by rw [hw, Ny439.out]; exact HP19.1); clear HP19; replace HI0 := A_ (IsS102.grown hI_IsS102_HI0 hg (IsS102.own_ne HI0.out HO436.out (by decide))); replace HB := A_ ((by rw [hw]; exact bD_ (HB.out) (Nat.le_trans HL.out GB12.out) : Below w0.heap.size w0 w20)); replace HK := A_ (KeepBut.trans hK_ (KeepBut.of_grown hg g) (Kd.R_base2 HO436.out)); replace HO436 := A_ (hp_); clear hg hw hp_))
    go_roundg k1
    case measure => have := HK1.out; omega
    case rel => exact ⟨(y439), (wrap64 (x6_1 + 1)), (t432), (t433), qc_, H', ⟨by have := HK1.out; omega⟩, ⟨(rr_ HO436)⟩, ⟨hI_IsS102_HI0⟩, ⟨hK_⟩, ⟨hBI_⟩⟩
   ·rw [if_neg c5] at H
    have c5b0 := oD_ c5
    clear c5
    simp only [Option.some.injEq, Prod.mk.injEq] at H
    obtain ⟨rfl, rfl, rfl⟩ := H
    go_wp2
    go_ret
    exact ⟨_, qb_, (rr_ HO_5), hI_IsS102_HI0, hBI_, hK_⟩
def Z63.l0 : Nat → Int → List Int → Int → Int → Option (Bool)
 | 0, _, _, _, _ => none
 | k + 1, x1, x7, x8, x9 => if x9 < x8 then (if 0 ≤ x9 then (if x9 < (x7.length : Int) then (if (rd x7 x9) = x1 then (some true) else (Z63.l0 k x1 x7 x8 (wrap64 (x9 + 1)))) else (none)) else (none)) else (some false)
def Z63.f (k : Nat) (l0 : List Int) (a1 : Int) : Option (Bool) := Z63.l0 k a1 l0 (l0.length : Int) 0
theorem Z63.mono_l : ∀ k, (∀ y0 y1 y2 y3, LeO (Z63.l0 k y0 y1 y2 y3) (Z63.l0 (k + 1) y0 y1 y2 y3))
 | 0 => fun _ _ _ _ r h => by simp [Z63.l0] at h
 | k + 1 => by
  have ih0 := Z63.mono_l k
  ·intro y0 y1 y2 y3
   unfold Z63.l0
   repeat' first|exact ih0 _ _ _ _|exact lo_|refine LeO.ite ?_ ?_|refine LeO.bind ?_ (fun _ => ?_)
theorem Z63.mono : ∀ a0 a1 k, LeO (Z63.f k a0 a1) (Z63.f (k + 1) a0 a1) := by
 intro a0 a1 k
 have ih0 := Z63.mono_l k
 unfold Z63.f
 repeat' first|exact ih0 _ _ _ _|exact lo_|refine LeO.ite ?_ ?_|refine LeO.bind ?_ (fun _ => ?_)
set_option maxHeartbeats 8000000 in
set_option maxRecDepth 100000 in
theorem Z63.calls (k : Nat) (A0 : Option Addr) (c0 : Nat) (l0 : List Int) (a1 : Int) (r : Bool) (w : World) (hr0 : Kd.C (Kd.int .i64) w A0 l0.length l0) (hc0 : l0.length ≤ c0) (h : Z63.f k l0 a1 = some r) :
  Calls Try.prog 126 #[.slice A0 l0.length c0, .int .i64 a1] w fun e w' => e = .returned (.bool r) ∧ Drawn0 w w' := by
 have HR0 := A_ hr0
 have HC0 := A_ hc0
 clear hr0 hc0
 have H := h
 unfold Z63.f at H
 clear h
 have H' := A_ H
 clear H
 go_enter Try.func126, Try.ntmps126
 go_wp2
 go_loopg [9] k (fun kq v9 w' => ∃ (x9_1 : Int), v9 = .int .i64 x9_1 ∧ Aside0 (Z63.l0 kq a1 l0 (l0.length : Int) x9_1 = some r) ∧ Aside0 (kq ≤ k) ∧ Drawn0 w w')
 case atStart => exact ⟨(0), qc_, H', ⟨nA_ _⟩, by repeat (first | exact Drawn0.refl _ | apply Drawn0.step)⟩
 case round =>
  clear H'
  obtain ⟨x9_1, rfl, HA, HK1, ⟨m1, rfl⟩⟩ := hrel
  cases gk with
  | zero => exact absurd HA.out (by simp [Z63.l0])
  | succ k1 =>
   have H := HA.out
   clear HA
   simp only [Z63.l0] at H
   by_cases c3 : x9_1 < (l0.length : Int)
   ·rw [if_pos c3] at H
    have c3b0 := oC_ c3
    clear c3
    have c4 := cp_ H
    replace H := ca_ H
    have c4b0 := oC_ c4
    clear c4
    have c5 := cp_ H
    replace H := ca_ H
    have c5b0 := oC_ c5
    clear c5
    by_cases c6 : (rd l0 x9_1) = a1
    ·rw [if_pos c6] at H
     have c6b0 : ((rd l0 x9_1) == a1) = true := beq_iff_eq.mpr c6
     have c6b1 : ((rd l0 x9_1) != a1) = false := bne_eq_false_iff_eq.mpr c6
     clear c6
     obtain rfl := Option.some.inj H
     have p522 : 0 ≤ (x9_1 : Int) := oB_ qe_
     have q522 : x9_1 < (l0.length : Int) := oB_ qe_
     obtain ⟨ad522, e522, hx522_0⟩ := Kd.at_int HR0.out x9_1 p522 q522
     cases e522
     replace p522 := eq_true p522
     replace q522 := eq_true q522
     go_wp2
     go_ret
     exact ⟨qc_, by repeat (first | exact Drawn0.refl _ | apply Drawn0.step)⟩
    ·rw [if_neg c6] at H
     have c6b0 : ((rd l0 x9_1) == a1) = false := beq_eq_false_iff_ne.mpr c6
     have c6b1 : ((rd l0 x9_1) != a1) = true := bne_iff_ne.mpr c6
     have H' := A_ H
     clear H
     have p522 : 0 ≤ (x9_1 : Int) := oB_ qe_
     have q522 : x9_1 < (l0.length : Int) := oB_ qe_
     obtain ⟨ad522, e522, hx522_0⟩ := Kd.at_int HR0.out x9_1 p522 q522
     cases e522
     replace p522 := eq_true p522
     replace q522 := eq_true q522
     go_wp2
     go_roundg k1
     case measure => have := HK1.out; omega
     case rel => exact ⟨(wrap64 (x9_1 + 1)), qc_, H', ⟨by have := HK1.out; omega⟩, by repeat (first | exact Drawn0.refl _ | apply Drawn0.step)⟩
   ·rw [if_neg c3] at H
    have c3b0 := oD_ c3
    clear c3
    obtain rfl := Option.some.inj H
    go_wp2
    go_ret
    exact ⟨qc_, by repeat (first | exact Drawn0.refl _ | apply Drawn0.step)⟩
def Z60.l0 : Nat → List Int → List Int → Int → Int → Option (Bool)
 | 0, _, _, _, _ => none
 | k + 1, x0, x8, x9, x10 => if x10 < x9 then (if 0 ≤ x10 then (if x10 < (x8.length : Int) then ((Z66.f (rd x8 x10) 0 (wrap64 ((x0.length : Int) - 1))).bind fun t524 => (if t524 = true then (if x10 ≤ (x0.length : Int) then ((Z63.f k (x0.take (x10 : Int).toNat) (rd x8 x10)).bind fun t526 => (if t526 = true then (some false) else (Z60.l0 k x0 x8 x9 (wrap64 (x10 + 1))))) else (none)) else (some false))) else (none)) else (none)) else (some true)
def Z60.f (k : Nat) (l0 : List Int) : Option (Bool) := if (l0.length : Int) > 24 then (some false) else (Z60.l0 k l0 l0 (l0.length : Int) 0)
theorem Z60.mono_l : ∀ k, (∀ y0 y1 y2 y3, LeO (Z60.l0 k y0 y1 y2 y3) (Z60.l0 (k + 1) y0 y1 y2 y3))
 | 0 => fun _ _ _ _ r h => by simp [Z60.l0] at h
 | k + 1 => by
  have ih0 := Z60.mono_l k
  ·intro y0 y1 y2 y3
   unfold Z60.l0
   repeat' first
   | (with_reducible exact ih0 _ _ _ _)
   | (with_reducible exact Z63.mono _ _ _)
   | (with_reducible exact LeO.refl _)
   | (with_reducible exact LeO.none _)
   | (with_reducible refine LeO.ite ?_ ?_)
   | (with_reducible refine LeO.bind ?_ (fun _ => ?_))
   | exact ih0 _ _ _ _
   | exact Z63.mono _ _ _
   | exact LeO.none _
   | refine LeO.ite ?_ ?_
   | refine LeO.bind ?_ (fun _ => ?_)
theorem Z60.mono : ∀ a0 k, LeO (Z60.f k a0) (Z60.f (k + 1) a0) := by
 intro a0 k
 have ih0 := Z60.mono_l k
 unfold Z60.f
 repeat' first
   | (with_reducible exact ih0 _ _ _ _)
   | (with_reducible exact Z63.mono _ _ _)
   | (with_reducible exact LeO.refl _)
   | (with_reducible exact LeO.none _)
   | (with_reducible refine LeO.ite ?_ ?_)
   | (with_reducible refine LeO.bind ?_ (fun _ => ?_))
   | exact ih0 _ _ _ _
   | exact Z63.mono _ _ _
   | exact LeO.none _
   | refine LeO.ite ?_ ?_
   | refine LeO.bind ?_ (fun _ => ?_)
set_option maxHeartbeats 8000000 in
set_option maxRecDepth 100000 in
theorem Z60.calls (k : Nat) (A0 : Option Addr) (c0 : Nat) (l0 : List Int) (r : Bool) (w : World) (hr0 : Kd.C (Kd.int .i64) w A0 l0.length l0) (hc0 : l0.length ≤ c0) (h : Z60.f k l0 = some r) :
  Calls Try.prog 161 #[.slice A0 l0.length c0] w fun e w' => e = .returned (.bool r) ∧ Drawn0 w w' := by
 have HR0 := A_ hr0
 have HC0 := A_ hc0
 clear hr0 hc0
 have H : (if (l0.length : Int) > 24 then (some false) else (Z60.l0 k l0 l0 (l0.length : Int) 0)) = some r := h
 clear h
 by_cases c2 : (l0.length : Int) > 24
 ·rw [if_pos c2] at H
  have c2b0 : decide (24 < (l0.length : Int)) = true := oC_ c2
  have c2b1 : decide (24 < l0.length) = true := oC_ (by omega)
  clear c2
  obtain rfl := Option.some.inj H
  go_enter Try.func161, Try.ntmps161
  go_wp2
  go_ret
  exact ⟨by first | rfl | (simp; done) | (simp [*]; done), by repeat (first | exact Drawn0.refl _ | apply Drawn0.step)⟩
 ·rw [if_neg c2] at H
  have c2b0 : decide (24 < (l0.length : Int)) = false := oD_ c2
  have c2b1 : decide (24 < l0.length) = false := oD_ (by omega)
  clear c2
  have H' := A_ H
  clear H
  go_enter Try.func161, Try.ntmps161
  go_wp2
  go_loopg [10] k (fun kq v10 w' => ∃ (x10_1 : Int), v10 = .int .i64 x10_1 ∧ Aside0 (Z60.l0 kq l0 l0 (l0.length : Int) x10_1 = some r) ∧ Aside0 (kq ≤ k) ∧ Drawn0 w w')
  case atStart => exact ⟨(0), (by first | rfl | (simp; done) | (simp [*]; done)), H', ⟨nA_ _⟩, by repeat (first | exact Drawn0.refl _ | apply Drawn0.step)⟩
  case round =>
   clear H'
   (try clear c1); (try clear c2); (try clear c2b0); (try clear c2b1); (try clear p2)
   obtain ⟨x10_1, rfl, HA, HK1, ⟨m1, rfl⟩⟩ := hrel
   cases gk with
   | zero => exact absurd HA.out (by simp [Z60.l0])
   | succ k1 =>
    have H := HA.out
    clear HA
    simp only [Z60.l0] at H
    by_cases c3 : x10_1 < (l0.length : Int)
    ·rw [if_pos c3] at H
     have c3b0 : decide (x10_1 < (l0.length : Int)) = true := oC_ c3
     clear c3
     by_cases c4 : 0 ≤ x10_1
     ·rw [if_pos c4] at H
      have c4b0 : decide (0 ≤ x10_1) = true := oC_ c4
      clear c4
      by_cases c5 : x10_1 < (l0.length : Int)
      ·rw [if_pos c5] at H
       have c5b0 : decide (x10_1 < (l0.length : Int)) = true := oC_ c5
       clear c5
       replace H := Option.bind_eq_some_iff.mp H
       obtain ⟨t524, A60, H⟩ := H
       replace H : (if t524 = true then (if x10_1 ≤ (l0.length : Int) then ((Z63.f k1 (l0.take (x10_1 : Int).toNat) (rd l0 x10_1)).bind fun t526 => (if t526 = true then (some false) else (Z60.l0 k1 l0 l0 (l0.length : Int) (wrap64 (x10_1 + 1))))) else (none)) else (some false)) = some r := H
       have A6 := A_ A60
       clear A60
       by_cases c7 : t524 = true
       ·subst c7
        have H1 : (if x10_1 ≤ (l0.length : Int) then ((Z63.f k1 (l0.take (x10_1 : Int).toNat) (rd l0 x10_1)).bind fun t526 => (if t526 = true then (some false) else (Z60.l0 k1 l0 l0 (l0.length : Int) (wrap64 (x10_1 + 1))))) else (none)) = some r := by rw [if_pos rfl] at H; exact H
        clear H
        have H := H1
        clear H1
        have c8b0 := eq_true (oB_ (by first | (with_reducible assumption) | assumption) : 0 ≤ x10_1)
        by_cases c9 : x10_1 ≤ (l0.length : Int)
        ·rw [if_pos c9] at H
         have c9b0 := eq_true c9
         have c9b1 : decide (x10_1 ≤ (l0.length : Int)) = true := oC_ c9
         clear c9
         replace H := Option.bind_eq_some_iff.mp H
         obtain ⟨t526, A100, H⟩ := H
         replace H : (if t526 = true then (some false) else (Z60.l0 k1 l0 l0 (l0.length : Int) (wrap64 (x10_1 + 1)))) = some r := H
         have A10 := A_ A100
         clear A100
         by_cases c11 : t526 = true
         ·subst c11
          have H1 : (some false) = some r := by rw [if_pos rfl] at H; exact H
          clear H
          have H := H1
          clear H1
          obtain rfl := Option.some.inj H
          have p523 : 0 ≤ (x10_1 : Int) := oB_ (by first | (with_reducible assumption) | assumption)
          have q523 : x10_1 < (l0.length : Int) := oB_ (by first | (with_reducible assumption) | assumption)
          obtain ⟨ad523, e523, hx523_0⟩ := Kd.at_int HR0.out x10_1 p523 q523
          cases e523
          replace p523 := eq_true p523
          replace q523 := eq_true q523
          have HL_ := A_ (show (x10_1 : Int).toNat = (l0.take (x10_1 : Int).toNat).length by rw [lB_]; have := of_eq_true q523; omega)
          go_wp2_with (first | ((with_reducible refine gA_ (f := 83) rfl ?_); refine goesL_ (some 19) rfl rfl Try.func83 (by kernel_rfl) rfl #[.int .i64 (rd l0 x10_1), .int .i64 0, .int .i64 (wrap64 ((l0.length : Int) - 1))] rfl (by (try simp only [mA_, mB_, mC_]); first | done | rfl | (simp only [lA_, lB_]; rfl)) ?_; (with_reducible refine (Z66.calls (rd l0 x10_1) 0 (wrap64 ((l0.length : Int) - 1)) true _ A6.out).mono ?_); rintro e w' ⟨rfl, ⟨nd, rfl⟩⟩; refine ⟨_, rfl, ?_⟩; obtain ⟨i012, hi012, _, hsz12, _⟩ := info_parts info3; obtain ⟨hcut12, hA12, hC12⟩ := print_take_of (P := Try.prog) (Value.int .i64) 0 23 3 .i64 Try.underlying23 hi012 hsz12 (some ad523) c0 l0 x10_1 (oB_ (by first | (with_reducible assumption) | assumption)) (oB_ (by first | (with_reducible assumption) | assumption)) HC0.out; have HR525 := A_ (Kd.C_of_reads (h1 := fun _ => rfl) (hA12 _ (Kd.reads_of_C HR0.out))); have HC525 := A_ hC12; clear hA12 hC12 hi012 hsz12) | (go_at_call 126; refine calls_of_args (congrArg (fun n_ => #[Value.slice _ n_ _, _]) HL_.out) ?_; (with_reducible refine (Z63.calls k1 _ _ (l0.take (x10_1 : Int).toNat) (rd l0 x10_1) true _ ?side1 ?side2 A10.out).mono ?_); (case side1 => repeat (first | exact HR525.out | (with_reducible first | refine cA_ ?_ _ | refine cB_ ?_ _ | refine cC_ ?_))); (case side2 => exact HC525.out); rintro e w' ⟨rfl, ⟨nd, rfl⟩⟩))
          go_ret
          exact ⟨by first | rfl | (simp; done) | (simp [*]; done), by repeat (first | exact Drawn0.refl _ | apply Drawn0.step)⟩
         ·replace c11 := Bool.eq_false_iff.mpr c11
          subst c11
          have H1 : (Z60.l0 k1 l0 l0 (l0.length : Int) (wrap64 (x10_1 + 1))) = some r := by rw [if_neg (show ¬ (false = true) by decide)] at H; exact H
          clear H
          have H := H1
          clear H1
          have H' := A_ H
          clear H
          have p523 : 0 ≤ (x10_1 : Int) := oB_ (by first | (with_reducible assumption) | assumption)
          have q523 : x10_1 < (l0.length : Int) := oB_ (by first | (with_reducible assumption) | assumption)
          obtain ⟨ad523, e523, hx523_0⟩ := Kd.at_int HR0.out x10_1 p523 q523
          cases e523
          replace p523 := eq_true p523
          replace q523 := eq_true q523
          have HL_ := A_ (show (x10_1 : Int).toNat = (l0.take (x10_1 : Int).toNat).length by rw [lB_]; have := of_eq_true q523; omega)
          go_wp2_with (first | ((with_reducible refine gA_ (f := 83) rfl ?_); refine goesL_ (some 19) rfl rfl Try.func83 (by kernel_rfl) rfl #[.int .i64 (rd l0 x10_1), .int .i64 0, .int .i64 (wrap64 ((l0.length : Int) - 1))] rfl (by (try simp only [mA_, mB_, mC_]); first | done | rfl | (simp only [lA_, lB_]; rfl)) ?_; (with_reducible refine (Z66.calls (rd l0 x10_1) 0 (wrap64 ((l0.length : Int) - 1)) true _ A6.out).mono ?_); rintro e w' ⟨rfl, ⟨nd, rfl⟩⟩; refine ⟨_, rfl, ?_⟩; obtain ⟨i013, hi013, _, hsz13, _⟩ := info_parts info3; obtain ⟨hcut13, hA13, hC13⟩ := print_take_of (P := Try.prog) (Value.int .i64) 0 23 3 .i64 Try.underlying23 hi013 hsz13 (some ad523) c0 l0 x10_1 (oB_ (by first | (with_reducible assumption) | assumption)) (oB_ (by first | (with_reducible assumption) | assumption)) HC0.out; have HR525 := A_ (Kd.C_of_reads (h1 := fun _ => rfl) (hA13 _ (Kd.reads_of_C HR0.out))); have HC525 := A_ hC13; clear hA13 hC13 hi013 hsz13) | (go_at_call 126; refine calls_of_args (congrArg (fun n_ => #[Value.slice _ n_ _, _]) HL_.out) ?_; (with_reducible refine (Z63.calls k1 _ _ (l0.take (x10_1 : Int).toNat) (rd l0 x10_1) false _ ?side1 ?side2 A10.out).mono ?_); (case side1 => repeat (first | exact HR525.out | (with_reducible first | refine cA_ ?_ _ | refine cB_ ?_ _ | refine cC_ ?_))); (case side2 => exact HC525.out); rintro e w' ⟨rfl, ⟨nd, rfl⟩⟩))
          go_roundg k1
          case measure => have := HK1.out; omega
          case rel => exact ⟨(wrap64 (x10_1 + 1)), (by first | rfl | (simp; done) | (simp [*]; done)), H', ⟨by have := HK1.out; omega⟩, by repeat (first | exact Drawn0.refl _ | apply Drawn0.step)⟩
        ·rw [if_neg c9] at H
         exact absurd H (by simp)
       ·replace c7 := Bool.eq_false_iff.mpr c7
        subst c7
        have H1 : (some false) = some r := by rw [if_neg (show ¬ (false = true) by decide)] at H; exact H
        clear H
        have H := H1
        clear H1
        obtain rfl := Option.some.inj H
        have p523 : 0 ≤ (x10_1 : Int) := oB_ (by first | (with_reducible assumption) | assumption)
        have q523 : x10_1 < (l0.length : Int) := oB_ (by first | (with_reducible assumption) | assumption)
        obtain ⟨ad523, e523, hx523_0⟩ := Kd.at_int HR0.out x10_1 p523 q523
        cases e523
        replace p523 := eq_true p523
        replace q523 := eq_true q523
        have HL_ := A_ (show (x10_1 : Int).toNat = (l0.take (x10_1 : Int).toNat).length by rw [lB_]; have := of_eq_true q523; omega)
        go_wp2_with (first | ((with_reducible refine gA_ (f := 83) rfl ?_); refine goesL_ (some 19) rfl rfl Try.func83 (by kernel_rfl) rfl #[.int .i64 (rd l0 x10_1), .int .i64 0, .int .i64 (wrap64 ((l0.length : Int) - 1))] rfl (by (try simp only [mA_, mB_, mC_]); first | done | rfl | (simp only [lA_, lB_]; rfl)) ?_; (with_reducible refine (Z66.calls (rd l0 x10_1) 0 (wrap64 ((l0.length : Int) - 1)) false _ A6.out).mono ?_); rintro e w' ⟨rfl, ⟨nd, rfl⟩⟩; refine ⟨_, rfl, ?_⟩))
        go_ret
        exact ⟨by first | rfl | (simp; done) | (simp [*]; done), by repeat (first | exact Drawn0.refl _ | apply Drawn0.step)⟩
      ·rw [if_neg c5] at H
       exact absurd H (by simp)
     ·rw [if_neg c4] at H
      exact absurd H (by simp)
    ·rw [if_neg c3] at H
     have c3b0 : decide (x10_1 < (l0.length : Int)) = false := oD_ c3
     clear c3
     obtain rfl := Option.some.inj H
     go_wp2
     go_ret
     exact ⟨by first | rfl | (simp; done) | (simp [*]; done), by repeat (first | exact Drawn0.refl _ | apply Drawn0.step)⟩
end Go.Proofs.Ytoijcallajegfaa.A
end
section
namespace Go.Proofs.Ytoijcallajegfaa.A
open Go.RowKit Go.Proofs.YtoijcallajegfaaW.PrintWords Go.Proofs.YtoijcallajegfaaW.PrintLast Go.Proofs.YtoijcallajegfaaW.PrintMore
attribute [local go_sem] max2_int min2_int max_two min_two max_three min_three max_four min_four
set_option linter.unusedVariables false
set_option linter.unusedSimpArgs false
mutual
def Z43.l0 : Nat → List Int → List Int → List Int → Int → Option (List Int)
 | 0, _, _, _, _ => none
 | k + 1, x0, x1, x7, x8 => if x8 < (x7.length : Int) then (if 0 ≤ x8 then (if 0 ≤ (rd x7 x8) then (if (rd x7 x8) < (x0.length : Int) then (if (rd x7 x8) < (x1.length : Int) then ((some (([rd x0 (rd x7 x8), rd x1 (rd x7 x8)] : List Int) : List Int)).bind fun y534 => (Z43.l1 k x0 x1 x7 x8 y534 (y534.length : Int) 0)) else (none)) else (none)) else (none)) else (none)) else (some x7)
def Z43.l1 : Nat → List Int → List Int → List Int → Int → List Int → Int → Int → Option (List Int)
 | 0, _, _, _, _, _, _, _ => none
 | k + 1, x0, x1, x7, x8, x33, x34, x35 => if x35 < x34 then (if 0 ≤ x35 then (if x35 < (x33.length : Int) then ((Z63.f k x7 (rd x33 x35)).bind fun t538 => (if t538 = true then (Z43.l1 k x0 x1 x7 x8 x33 x34 (wrap64 (x35 + 1))) else (if x7.length < 17592186044416 then (Z43.l1 k x0 x1 (x7 ++ [rd x33 x35]) x8 x33 x34 (wrap64 (x35 + 1))) else (none)))) else (none)) else (none)) else (Z43.l0 k x0 x1 x7 (wrap64 (x8 + 1)))
end
def Z43.f (k : Nat) (l0 : List Int) (l1 : List Int) (a2 : Int) : Option (List Int) := Z43.l0 k l0 l1 (([a2] : List Int)) 0
theorem Z43.mono_l : ∀ k, (∀ y0 y1 y2 y3, LeO (Z43.l0 k y0 y1 y2 y3) (Z43.l0 (k + 1) y0 y1 y2 y3)) ∧ (∀ y0 y1 y2 y3 y4 y5 y6, LeO (Z43.l1 k y0 y1 y2 y3 y4 y5 y6) (Z43.l1 (k + 1) y0 y1 y2 y3 y4 y5 y6))
 | 0 => ⟨fun _ _ _ _ r h => by simp [Z43.l0] at h, fun _ _ _ _ _ _ _ r h => by simp [Z43.l1] at h⟩
 | k + 1 => by
  obtain ⟨ih0, ih1⟩ := Z43.mono_l k
  refine ⟨?_, ?_⟩
  ·intro y0 y1 y2 y3
   unfold Z43.l0
   repeat' first|exact ih0 _ _ _ _|exact ih1 _ _ _ _ _ _ _|exact Z63.mono _ _ _|exact lo_|refine LeO.ite ?_ ?_|refine LeO.bind ?_ (fun _ => ?_)
  ·intro y0 y1 y2 y3 y4 y5 y6
   unfold Z43.l1
   repeat' first|exact ih0 _ _ _ _|exact ih1 _ _ _ _ _ _ _|exact Z63.mono _ _ _|exact lo_|refine LeO.ite ?_ ?_|refine LeO.bind ?_ (fun _ => ?_)
theorem Z43.mono : ∀ a0 a1 a2 k, LeO (Z43.f k a0 a1 a2) (Z43.f (k + 1) a0 a1 a2) := by
 intro a0 a1 a2 k
 obtain ⟨ih0, ih1⟩ := Z43.mono_l k
 unfold Z43.f
 repeat' first|exact ih0 _ _ _ _|exact ih1 _ _ _ _ _ _ _|exact Z63.mono _ _ _|exact lo_|refine LeO.ite ?_ ?_|refine LeO.bind ?_ (fun _ => ?_)
def Z43.T5 : Bool × List (List Nat × List Nat) := (true, [([], []), ([], []), ([], []), ([1, 2], [1, 2]), ([3], [3]), ([0, 4], [0, 4]), ([5], [5]), ([], []), ([], []), ([], []), ([8, 9], [8, 9]), ([10], [10]), ([7, 11], [7, 11]), ([12], [12]), ([6, 13], [6, 13]), ([14], [14]), ([], [])])
def Z43.B5 : List Nat := [0, 0, 0, 6, 14, 31, 63, 0, 0, 0, 768, 1792, 3968, 8064, 16383, 32767, 0]
theorem Z43.tab5 : rtab .any (opsOf Try.f162 5) = Z43.T5 := by kernel_rfl
theorem Z43.bits5 : waitsOk Z43.T5.2 Z43.B5 = true := by kernel_rfl
set_option maxHeartbeats 8000000 in
set_option maxRecDepth 100000 in
theorem Z43.calls (k : Nat) (A0 : Option Addr) (c0 : Nat) (l0 : List Int) (A1 : Option Addr) (c1 : Nat) (l1 : List Int) (a2 : Int) (r : List Int) (w : World) (hr0 : Kd.C (Kd.int .i64) w A0 l0.length l0) (hc0 : l0.length ≤ c0) (hr1 : Kd.C (Kd.int .i64) w A1 l1.length l1) (hc1 : l1.length ≤ c1) (h : Z43.f k l0 l1 a2 = some r) :
  Calls Try.prog 162 #[.slice A0 l0.length c0, .slice A1 l1.length c1, .int .i64 a2] w fun e w' => ∃ v0_ : Value, e = .returned (v0_) ∧ Kd.R (Kd.int .i64) 3 w' w.heap.size (fun _ => True) v0_ r ∧ Below w.heap.size w w' := by
 have HR0 := A_ hr0
 have HC0 := A_ hc0
 clear hr0 hc0
 have HR1 := A_ hr1
 have HC1 := A_ hc1
 clear hr1 hc1
 have HB := A_ (Below.refl w.heap.size w)
 have H := h
 unfold Z43.f at H
 clear h
 obtain ⟨y527, hy527⟩ : ∃ y_ : List Int, y_ = (([a2] : List Int)) := ⟨_, rfl⟩
 replace H : (Z43.l0 k l0 l1 y527 0) = some r := by first | (rw [hy527]; exact H) | exact H
 have Ny527 := A_ hy527
 clear hy527
 have H' := A_ H
 clear H
 go_enter Try.func162, Try.ntmps162
 go_wp2_with (first | ((with_reducible refine gB_ (N := 12) rfl ?_); refine Kd.R_lit (Kd.int .i64) _ 3 ?hg (N := 12) ?hd (xs := ([a2] : List Int)) (inner := [.int .i64 a2]) (ok := fun _ => True) (okp := fun _ => True) ?hr ?hp (fun _ hk => hk) trivial (Below.refl _ _) (nA_ _) (by simp) ?_; (case hd => rfl); (case hg => rfl); (case hr => first | (go_simp; done) | (go_simp; rfl)); (case hp => exact (Reps.one (show Kd.M (Kd.int .i64) _ _ _ a2 [.int .i64 a2] from rfl) (Reps.none _ _))); intro v528 w4 ho5 hb hg_ hnew_; clear hg_ hnew_; (first | rw [← Ny527.out] at ho5 | (simp only [Int.reduceToNat] at ho5; rw [← Ny527.out] at ho5)); have HO529 := rl_ w ho5; replace HB := b1_ hb; clear hb ho5))
 go_loopg [7, 8] k (fun kq v7 v8 w' => ∃ (x7_1 : List Int) (x8_1 : Int), v8 = .int .i64 x8_1 ∧ Aside0 (Z43.l0 kq l0 l1 x7_1 x8_1 = some r) ∧ Aside0 (kq ≤ k) ∧ Aside0 (Kd.R (Kd.int .i64) 3 w' w.heap.size (fun _ => True) v7 x7_1) ∧ Aside0 (Below w.heap.size w w'))
 case atStart => exact ⟨(y527), (0), qc_, H', ⟨nA_ _⟩, ⟨(rr_ HO529)⟩, ⟨hB_⟩⟩
 case round =>
  clear H'
  obtain ⟨x7_1, x8_1, rfl, HA, HK1, HO_7, HB⟩ := hrel
  cases gk with
  | zero => exact absurd HA.out (by simp [Z43.l0])
  | succ k1 =>
   have H := HA.out
   clear HA
   simp only [Z43.l0] at H
   by_cases c6 : x8_1 < (x7_1.length : Int)
   ·rw [if_pos c6] at H
    have c6b0 := oC_ c6
    clear c6
    have c7 := cp_ H
    replace H := ca_ H
    have c7b0 := oC_ c7
    clear c7
    have c8 := cp_ H
    replace H := ca_ H
    have c8b0 := oC_ c8
    clear c8
    have c9 := cp_ H
    replace H := ca_ H
    have c9b0 := oC_ c9
    clear c9
    have c10 := cp_ H
    replace H := ca_ H
    have c10b0 := oC_ c10
    clear c10
    obtain ⟨y534, hy534⟩ : ∃ y_ : List Int, y_ = (([rd l0 (rd x7_1 x8_1), rd l1 (rd x7_1 x8_1)] : List Int)) := ⟨_, rfl⟩
    replace H : (Z43.l1 k1 l0 l1 x7_1 x8_1 y534 (y534.length : Int) 0) = some r := by first | (rw [hy534]; exact H) | exact H
    have Ny534 := A_ hy534
    clear hy534
    have H' := A_ H
    clear H
    obtain ⟨Ao11, co11, eo11⟩ := Kd.R_slice HO_7.out
    subst eo11
    try go_wp2
    replace HO_7 := A_ (rC_ HO_7.out)
    replace HB := A_ (bC_ HB.out)
    have p530 : 0 ≤ (x8_1 : Int) := oB_ qe_
    have q530 : x8_1 < (x7_1.length : Int) := oB_ qe_
    obtain ⟨ad530, e530, hx530_0⟩ := Kd.at_int (Kd.R_reads' HO_7.out).2.2 x8_1 p530 q530
    cases e530
    replace p530 := eq_true p530
    replace q530 := eq_true q530
    have p531 : 0 ≤ ((rd x7_1 x8_1) : Int) := oB_ qe_
    have q531 : (rd x7_1 x8_1) < (l0.length : Int) := oB_ qe_
    obtain ⟨ad531, e531, hx531_0⟩ := Kd.at_int HR0.out (rd x7_1 x8_1) p531 q531
    have hw531_0 := hx531_0
    cases e531
    replace hx531_0 := (HB.out.cell (World.block_lt_of_cell? w _ hx531_0)).trans hx531_0
    replace p531 := eq_true p531
    replace q531 := eq_true q531
    have p532 : 0 ≤ (x8_1 : Int) := oB_ qe_
    have q532 : x8_1 < (x7_1.length : Int) := oB_ qe_
    obtain ⟨ad532, e532, hx532_0⟩ := Kd.at_int (Kd.R_reads' HO_7.out).2.2 x8_1 p532 q532
    obtain rfl : ad530 = ad532 := (by injection e532)
    replace p532 := eq_true p532
    replace q532 := eq_true q532
    have p533 : 0 ≤ ((rd x7_1 x8_1) : Int) := oB_ qe_
    have q533 : (rd x7_1 x8_1) < (l1.length : Int) := oB_ qe_
    obtain ⟨ad533, e533, hx533_0⟩ := Kd.at_int HR1.out (rd x7_1 x8_1) p533 q533
    have hw533_0 := hx533_0
    cases e533
    replace hx533_0 := (HB.out.cell (World.block_lt_of_cell? w _ hx533_0)).trans hx533_0
    replace p533 := eq_true p533
    replace q533 := eq_true q533
    refine start_ (n := 17) (S := fun w' => w'.cell? (ad530.add (x8_1).toNat) = some (.int .i64 (rd x7_1 x8_1)) ∧ w'.cell? (ad531.add ((rd x7_1 x8_1)).toNat) = some (.int .i64 (rd l0 (rd x7_1 x8_1))) ∧ w'.cell? (ad530.add (x8_1).toNat) = some (.int .i64 (rd x7_1 x8_1)) ∧ w'.cell? (ad533.add ((rd x7_1 x8_1)).toNat) = some (.int .i64 (rd l1 (rd x7_1 x8_1)))) (ds := []) (bl_ 17 0) (by kernel_rfl) rfl (by kernel_rfl) ⟨hx530_0, ((HB.out.cell (World.block_lt_of_cell? w _ hw531_0)).trans hw531_0), hx532_0, ((HB.out.cell (World.block_lt_of_cell? w _ hw533_0)).trans hw533_0)⟩ (fun hHeld => ?_); refine with_tabW Z43.tab5 Z43.bits5 (fun HT_ HW_ => ?_)
    generalize wr.drew = w12 at HO_7 HB hx530_0 hx531_0 hx532_0 hx533_0 hHeld ⊢
    refine pu_ 0 (some 19) (bl_ 17 1) HT_ ?_
    refine pu_ 1 (some 20) (bl_ 17 3) HT_ ?_
    refine pu_ 2 (some 21) (bl_ 17 7) HT_ ?_
    refine pu_ 3 (some 22) (bl_ 17 15) HT_ ?_
    refine pu_ 7 (some 26) (bl_ 17 143) HT_ ?_
    refine pu_ 8 (some 27) (bl_ 17 399) HT_ ?_
    refine pu_ 9 (some 28) (bl_ 17 911) HT_ ?_
    refine pu_ 10 (some 29) (bl_ 17 1935) HT_ ?_
    refine pu_ 16 (some 35) (bl_ 17 67471) HT_ ?_
    refine ta_ 4 (some 23) (bl_ 17 67487) HT_ HW_ hHeld ?_
    refine pu_ 5 (some 24) (bl_ 17 67519) HT_ ?_
    refine ta_ 6 (some 25) (bl_ 17 67583) HT_ HW_ hHeld ?_
    refine ta_ 11 (some 30) (bl_ 17 69631) HT_ HW_ hHeld ?_
    refine pu_ 12 (some 31) (bl_ 17 73727) HT_ ?_
    refine ta_ 13 (some 32) (bl_ 17 81919) HT_ HW_ hHeld ?_
    refine on_ 14 (some 33) (bl_ 17 98303) HT_ (fun K hK => ?_)
    refine Kd.R_lit_step (Kd.int .i64) _ 3 ?hg (N := 33) ?hd (xs := ([rd l0 (rd x7_1 x8_1), rd l1 (rd x7_1 x8_1)] : List Int)) (inner := [.int .i64 (rd l0 (rd x7_1 x8_1)), .int .i64 (rd l1 (rd x7_1 x8_1))]) (ok := fun _ => True) (okp := fun _ => True) ?hr ?hp (fun _ hk => hk) trivial (Below.refl _ _) (nA_ _) (by simp) ?_; (case hd => rfl); (case hg => rfl); (case hr => first | (go_simp; done) | (go_simp; rfl)); (case hp => exact (Reps.one (show Kd.M (Kd.int .i64) _ _ _ (rd l0 (rd x7_1 x8_1)) [.int .i64 (rd l0 (rd x7_1 x8_1))] from rfl) (Reps.one (show Kd.M (Kd.int .i64) _ _ _ (rd l1 (rd x7_1 x8_1)) [.int .i64 (rd l1 (rd x7_1 x8_1))] from rfl) (Reps.none _ _))))
    intro v535 w13 ho14 hb hg_ hnew_
    have HS0_ := (hb.cell (World.block_lt_of_cell? _ _ (hHeld.1))).trans (hHeld.1)
    have HS2_ := (hb.cell (World.block_lt_of_cell? _ _ (hHeld.2.2.1))).trans (hHeld.2.2.1)
    clear hg_ hnew_
    (first | rw [← Ny534.out] at ho14 | (simp only [Int.reduceToNat] at ho14; rw [← Ny534.out] at ho14))
    have HO536 := A_ (rE_ (Kd.R_new' ho14 (Kd.R_lt (rr_ HO_7))) (bF_ hB_))
    replace HO_7 := A_ (Kd.R_elder' (rr_ HO_7) (Kd.R_base ho14) hb)
    replace HB := b1_ hb
    clear hb ho14
    obtain ⟨Ao15, co15, eo15⟩ := Kd.R_slice HO536.out
    (first | subst eo15 | (injection eo15 with f1_ f2_ f3_; have f4_ := f1_.symm; have f5_ := f3_.symm; clear f1_ f2_ f3_; subst f4_; subst f5_))
    refine hK.out _ _ ⟨HS0_, ((HB.out.cell (World.block_lt_of_cell? w _ hw531_0)).trans hw531_0), HS2_, ((HB.out.cell (World.block_lt_of_cell? w _ hw533_0)).trans hw533_0)⟩ (fun hHeld => ?_)
    clear hK K
    refine no_ (some 33) ?_
    refine pu_ 15 (some 34) (bl_ 17 131071) HT_ ?_
    refine done_ (done_of HT_.out (by kernel_rfl)) ?_
    try go_wp2
    go_loopg [7, 35] k1 (fun kq v7 v35 w' => ∃ (x7_2 : List Int) (x35_2 : Int), v35 = .int .i64 x35_2 ∧ Aside0 (Z43.l1 kq l0 l1 x7_2 x8_1 y534 (y534.length : Int) x35_2 = some r) ∧ Aside0 (kq ≤ k1) ∧ Aside0 (Kd.R (Kd.int .i64) 3 w' w.heap.size (fun k_ => some k_ ≠ ((.slice Ao15 y534.length co15) : Value).ownBlock) v7 x7_2) ∧ Aside0 (Kd.R (Kd.int .i64) 3 w' w.heap.size (fun k_ => some k_ ≠ (v7 : Value).ownBlock) (.slice Ao15 y534.length co15) y534) ∧ Aside0 (Below w.heap.size w w'))
    case atStart => exact ⟨(x7_1), (0), qc_, H', ⟨nA_ _⟩, ⟨(rw_ (Kd.R_mono HO_7.out (fun _ hk => hk.2)))⟩, ⟨(rw_ (Kd.R_mono HO536.out (fun _ hk => hk.2)))⟩, ⟨hB_⟩⟩
    case round =>
     clear H'
     obtain ⟨x7_2, x35_2, rfl, HA, HK2, HO_7, HO_33, HB⟩ := hrel
     cases gk with
     | zero => exact absurd HA.out (by simp [Z43.l1])
     | succ k2 =>
      have H := HA.out
      clear HA
      simp only [Z43.l1] at H
      by_cases c16 : x35_2 < (y534.length : Int)
      ·rw [if_pos c16] at H
       have c16b0 := oC_ c16
       clear c16
       have c17 := cp_ H
       replace H := ca_ H
       have c17b0 := oC_ c17
       clear c17
       have c18 := cp_ H
       replace H := ca_ H
       have c18b0 := oC_ c18
       clear c18
       obtain ⟨t538, A19, H⟩ := bi_ H
       by_cases c20 : t538 = true
       ·subst c20
        rw [if_pos rfl] at H
        have H' := A_ H
        clear H
        have p537 : 0 ≤ (x35_2 : Int) := oB_ qe_
        have q537 : x35_2 < (y534.length : Int) := oB_ qe_
        obtain ⟨ad537, e537, hx537_0⟩ := Kd.at_int (Kd.R_reads' HO_33.out).2.2 x35_2 p537 q537
        cases e537
        replace p537 := eq_true p537
        replace q537 := eq_true q537
        obtain ⟨Ao21, co21, eo21⟩ := Kd.R_slice HO_7.out
        subst eo21
        go_wp2_with (first | ((with_reducible refine gA_ (f := 126) rfl ?_); refine gL_ (some 41) Try.func126 #[.slice Ao21 x7_2.length co21, .int .i64 (rd y534 x35_2)] rfl qa_ ?_; (with_reducible refine (Z63.calls k2 _ _ x7_2 (rd y534 x35_2) true _ (cr_ HO_7) ((Kd.R_reads' HO_7.out).2.1) A19.out).mono ?_); rintro e w' ⟨rfl, ⟨nd, rfl⟩⟩; refine ⟨_, rfl, ?_⟩))
        go_roundg k2
        case measure => have := HK1.out; have := HK2.out; omega
        case rel => exact ⟨(x7_2), (wrap64 (x35_2 + 1)), qc_, H', ⟨by have := HK1.out; have := HK2.out; omega⟩, ⟨(rr_ HO_7)⟩, ⟨(rr_ HO_33)⟩, ⟨hB_⟩⟩
       ·replace c20 := Bool.eq_false_iff.mpr c20
        subst c20
        have H1 : (if x7_2.length < 17592186044416 then (Z43.l1 k2 l0 l1 (x7_2 ++ [rd y534 x35_2]) x8_1 y534 (y534.length : Int) (wrap64 (x35_2 + 1))) else (none)) = some r := by rw [if_neg (show ¬ (false = true) by decide)] at H; exact H
        clear H
        have H := H1
        clear H1
        have c22 := cp_ H
        replace H := ca_ H
        have LMc22 := A_ c22
        clear c22
        obtain ⟨y539, hy539⟩ : ∃ y_ : List Int, y_ = (x7_2 ++ [rd y534 x35_2]) := ⟨_, rfl⟩
        replace H : (Z43.l1 k2 l0 l1 y539 x8_1 y534 (y534.length : Int) (wrap64 (x35_2 + 1))) = some r := by first | (rw [hy539]; exact H) | exact H
        have Ny539 := A_ hy539
        clear hy539
        have H' := A_ H
        clear H
        have p537 : 0 ≤ (x35_2 : Int) := oB_ qe_
        have q537 : x35_2 < (y534.length : Int) := oB_ qe_
        obtain ⟨ad537, e537, hx537_0⟩ := Kd.at_int (Kd.R_reads' HO_33.out).2.2 x35_2 p537 q537
        cases e537
        replace p537 := eq_true p537
        replace q537 := eq_true q537
        obtain ⟨Ao23, co23, eo23⟩ := Kd.R_slice HO_7.out
        subst eo23
        go_wp2_with (first | ((with_reducible refine gA_ (f := 126) rfl ?_); refine gL_ (some 41) Try.func126 #[.slice Ao23 x7_2.length co23, .int .i64 (rd y534 x35_2)] rfl qa_ ?_; (with_reducible refine (Z63.calls k2 _ _ x7_2 (rd y534 x35_2) false _ (cr_ HO_7) ((Kd.R_reads' HO_7.out).2.1) A19.out).mono ?_); rintro e w' ⟨rfl, ⟨nd, rfl⟩⟩; refine ⟨_, rfl, ?_⟩) | ((with_reducible refine gate_builtin (b := .append) (xs := #[.tmp 43, .tmp 45]) rfl ?_); at_builtin; refine Kd.R_append (Kd.int .i64) (w0 := w) w.heap.size rfl (.tmp 43) (.tmp 45) 23 3 (.int .i64 0) 8 rfl Try.underlying23 info3 rfl (by decide) (by omega) (.slice Ao23 x7_2.length co23) x7_2 (rd y534 x35_2) [.int .i64 (rd y534 x35_2)] (fun k_ => some k_ ≠ (.slice (some ad537) y534.length co15 : Value).ownBlock) (fun _ => False) rfl rfl ?aP (fun _ hk => hk.elim) ?aF ?aO ?aB ?aS ?aL ?_; (case aP => exact rfl); (case aB => exact hB_); (case aF => exact (fun k_ hk => Kd.fresh' (Kd.R_lt (rr_ HO_33)) k_ hk)); (case aO => exact (rr_ HO_7)); (case aS => exact (bF_ hB_)); (case aL => have := LMc22.out; omega); intro v540 w24 ho hb hg hat; rw [← Ny539.out] at ho; replace HO_33 := A_ (Kd.R_after (ok := (fun _ => True)) (rw_ (Kd.R_mono HO_33.out (fun _ hk => ⟨trivial, hk⟩))) hg hat); replace HB := A_ hb; have HO541 := A_ ho; clear HO_7; clear ho hb hg hat))
        go_roundg k2
        case measure => have := HK1.out; have := HK2.out; omega
        case rel => exact ⟨(y539), (wrap64 (x35_2 + 1)), qc_, H', ⟨by have := HK1.out; have := HK2.out; omega⟩, ⟨(rr_ HO541)⟩, ⟨(rw_ (Kd.R_mono HO_33.out (fun _ hk => hk.2)))⟩, ⟨hB_⟩⟩
      ·rw [if_neg c16] at H
       have c16b0 := oD_ c16
       clear c16
       have H' := A_ H
       clear H
       go_wp2
       go_roundg k2
       case measure => have := HK1.out; have := HK2.out; omega
       case rel => exact ⟨(x7_2), (wrap64 (x8_1 + 1)), qc_, H', ⟨by have := HK1.out; have := HK2.out; omega⟩, ⟨(rw_ (Kd.R_mono HO_7.out (fun _ hk => trivial)))⟩, ⟨hB_⟩⟩
   ·rw [if_neg c6] at H
    have c6b0 := oD_ c6
    clear c6
    obtain rfl := Option.some.inj H
    obtain ⟨Ao25, co25, eo25⟩ := Kd.R_slice HO_7.out
    subst eo25
    go_wp2
    go_ret
    exact ⟨_, qb_, (rr_ HO_7), hB_⟩
end Go.Proofs.Ytoijcallajegfaa.A
end
section
namespace Go.Proofs.Ytoijcallajegfaa.A
open Go.RowKit Go.Proofs.YtoijcallajegfaaW.PrintWords Go.Proofs.YtoijcallajegfaaW.PrintLast Go.Proofs.YtoijcallajegfaaW.PrintMore
attribute [local go_sem] max2_int min2_int max_two min_two max_three min_three max_four min_four
set_option linter.unusedVariables false
set_option linter.unusedSimpArgs false
def Z14.f (k : Nat) (l0 : List Int) (l1 : List Int) : Option (Bool) := (Z60.f k l0).bind fun t542 => (if t542 = true then ((Z60.f k l1).bind fun t543 => (if t543 = true then (if (l0.length : Int) = (l1.length : Int) then (if (l0.length : Int) > 0 then ((Z43.f k l0 l1 0).bind fun t544 => (some ((t544.length : Int) == (l0.length : Int)))) else (some false)) else (some false)) else (some false))) else (some false))
theorem Z14.mono : ∀ a0 a1 k, LeO (Z14.f k a0 a1) (Z14.f (k + 1) a0 a1) := by
 intro a0 a1 k
 unfold Z14.f
 repeat' first|exact Z60.mono _ _|exact Z43.mono _ _ _ _|exact lo_|refine LeO.ite ?_ ?_|refine LeO.bind ?_ (fun _ => ?_)
set_option maxHeartbeats 8000000 in
set_option maxRecDepth 100000 in
theorem Z14.calls (k : Nat) (A0 : Option Addr) (c0 : Nat) (l0 : List Int) (A1 : Option Addr) (c1 : Nat) (l1 : List Int) (r : Bool) (w : World) (hr0 : Kd.C (Kd.int .i64) w A0 l0.length l0) (hc0 : l0.length ≤ c0) (hr1 : Kd.C (Kd.int .i64) w A1 l1.length l1) (hc1 : l1.length ≤ c1) (h : Z14.f k l0 l1 = some r) :
  Calls Try.prog 127 #[.slice A0 l0.length c0, .slice A1 l1.length c1] w fun e w' => e = .returned (.bool r) ∧ Below w.heap.size w w' := by
 have HR0 := A_ hr0
 have HC0 := A_ hc0
 clear hr0 hc0
 have HR1 := A_ hr1
 have HC1 := A_ hc1
 clear hr1 hc1
 have HB := A_ (Below.refl w.heap.size w)
 have H := h
 unfold Z14.f at H
 clear h
 obtain ⟨t542, A3, H⟩ := bi_ H
 by_cases c4 : t542 = true
 ·subst c4
  rw [if_pos rfl] at H
  obtain ⟨t543, A5, H⟩ := bi_ H
  by_cases c6 : t543 = true
  ·subst c6
   rw [if_pos rfl] at H
   by_cases c7 : (l0.length : Int) = (l1.length : Int)
   ·rw [if_pos c7] at H
    have c7b0 : ((l0.length : Int) == (l1.length : Int)) = true := beq_iff_eq.mpr c7
    have c7b1 : ((l0.length : Int) != (l1.length : Int)) = false := bne_eq_false_iff_eq.mpr c7
    have c7b2 : (l0.length == l1.length) = true := by first | simpa using c7 | (simp at c7 ⊢; omega)
    clear c7
    by_cases c8 : (l0.length : Int) > 0
    ·rw [if_pos c8] at H
     have c8b0 : decide (0 < (l0.length : Int)) = true := oC_ c8
     have c8b1 : decide (0 < l0.length) = true := oC_ (by omega)
     clear c8
     obtain ⟨t544, A9, H⟩ := bi_ H
     obtain rfl := Option.some.inj H
     go_enter Try.func127, Try.ntmps127
     go_wp2_with (first | ((with_reducible refine gA_ (f := 161) rfl ?_); refine gL_ (some 6) Try.func161 #[.slice A0 l0.length c0] rfl qa_ ?_; (with_reducible refine (Z60.calls k _ _ l0 true _ (cc_ HR0) HC0.out A3.out).mono ?_); rintro e w' ⟨rfl, ⟨nd, rfl⟩⟩; refine ⟨_, rfl, ?_⟩) | (go_at_call 161; (with_reducible refine (Z60.calls k _ _ l1 true _ (cc_ HR1) HC1.out A5.out).mono ?_); rintro e w' ⟨rfl, ⟨nd, rfl⟩⟩) | (go_at_call 162; (with_reducible refine (Z43.calls k _ _ l0 _ _ l1 0 t544 _ (cc_ HR0) HC0.out (cc_ HR1) HC1.out A9.out).mono ?_); rintro e w10 ⟨v545, rfl, ho0, hb⟩; have HO546 := rl_ w ho0; replace HB := b1_ hb; clear hb ho0; obtain ⟨Ao11, co11, eo11⟩ := Kd.R_slice HO546.out; subst eo11))
     go_ret
     exact ⟨qb_, hB_⟩
    ·rw [if_neg c8] at H
     have c8b0 : decide (0 < (l0.length : Int)) = false := oD_ c8
     have c8b1 : decide (0 < l0.length) = false := oD_ (by omega)
     clear c8
     obtain rfl := Option.some.inj H
     go_enter Try.func127, Try.ntmps127
     go_wp2_with (first | ((with_reducible refine gA_ (f := 161) rfl ?_); refine gL_ (some 6) Try.func161 #[.slice A0 l0.length c0] rfl qa_ ?_; (with_reducible refine (Z60.calls k _ _ l0 true _ (cc_ HR0) HC0.out A3.out).mono ?_); rintro e w' ⟨rfl, ⟨nd, rfl⟩⟩; refine ⟨_, rfl, ?_⟩) | (go_at_call 161; (with_reducible refine (Z60.calls k _ _ l1 true _ (cc_ HR1) HC1.out A5.out).mono ?_); rintro e w' ⟨rfl, ⟨nd, rfl⟩⟩))
     go_ret
     exact ⟨qb_, hB_⟩
   ·rw [if_neg c7] at H
    have c7b0 : ((l0.length : Int) == (l1.length : Int)) = false := beq_eq_false_iff_ne.mpr c7
    have c7b1 : ((l0.length : Int) != (l1.length : Int)) = true := bne_iff_ne.mpr c7
    have c7b2 : (l0.length == l1.length) = false := by first | simpa using c7 | (simp at c7 ⊢; omega)
    obtain rfl := Option.some.inj H
    go_enter Try.func127, Try.ntmps127
    go_wp2_with (first | ((with_reducible refine gA_ (f := 161) rfl ?_); refine gL_ (some 6) Try.func161 #[.slice A0 l0.length c0] rfl qa_ ?_; (with_reducible refine (Z60.calls k _ _ l0 true _ (cc_ HR0) HC0.out A3.out).mono ?_); rintro e w' ⟨rfl, ⟨nd, rfl⟩⟩; refine ⟨_, rfl, ?_⟩) | (go_at_call 161; (with_reducible refine (Z60.calls k _ _ l1 true _ (cc_ HR1) HC1.out A5.out).mono ?_); rintro e w' ⟨rfl, ⟨nd, rfl⟩⟩))
    go_ret
    exact ⟨qb_, hB_⟩
  ·replace c6 := Bool.eq_false_iff.mpr c6
   subst c6
   have H1 : (some false) = some r := by rw [if_neg (show ¬ (false = true) by decide)] at H; exact H
   clear H
   have H := H1
   clear H1
   obtain rfl := Option.some.inj H
   go_enter Try.func127, Try.ntmps127
   go_wp2_with (first | ((with_reducible refine gA_ (f := 161) rfl ?_); refine gL_ (some 6) Try.func161 #[.slice A0 l0.length c0] rfl qa_ ?_; (with_reducible refine (Z60.calls k _ _ l0 true _ (cc_ HR0) HC0.out A3.out).mono ?_); rintro e w' ⟨rfl, ⟨nd, rfl⟩⟩; refine ⟨_, rfl, ?_⟩) | (go_at_call 161; (with_reducible refine (Z60.calls k _ _ l1 false _ (cc_ HR1) HC1.out A5.out).mono ?_); rintro e w' ⟨rfl, ⟨nd, rfl⟩⟩))
   go_ret
   exact ⟨qb_, hB_⟩
 ·replace c4 := Bool.eq_false_iff.mpr c4
  subst c4
  have H1 : (some false) = some r := by rw [if_neg (show ¬ (false = true) by decide)] at H; exact H
  clear H
  have H := H1
  clear H1
  obtain rfl := Option.some.inj H
  go_enter Try.func127, Try.ntmps127
  go_wp2_with (first | ((with_reducible refine gA_ (f := 161) rfl ?_); refine gL_ (some 6) Try.func161 #[.slice A0 l0.length c0] rfl qa_ ?_; (with_reducible refine (Z60.calls k _ _ l0 false _ (cc_ HR0) HC0.out A3.out).mono ?_); rintro e w' ⟨rfl, ⟨nd, rfl⟩⟩; refine ⟨_, rfl, ?_⟩))
  go_ret
  exact ⟨qb_, hB_⟩
def Z33.f (k : Nat) (l0_0 : List Int) (l0_1 : List Int) : Option (Bool) := (Z14.f k l0_0 l0_1).bind fun t548 => (some t548)
theorem Z33.mono : ∀ a0 a1 k, LeO (Z33.f k a0 a1) (Z33.f (k + 1) a0 a1) := by
 intro a0 a1 k
 unfold Z33.f
 repeat' first|exact Z14.mono _ _ _|exact lo_|refine LeO.ite ?_ ?_|refine LeO.bind ?_ (fun _ => ?_)
set_option maxHeartbeats 8000000 in
set_option maxRecDepth 100000 in
theorem Z33.calls (k : Nat) (A0_0 : Option Addr) (c0_0 : Nat) (l0_0 : List Int) (A0_1 : Option Addr) (c0_1 : Nat) (l0_1 : List Int) (r : Bool) (w : World) (hr0_0 : Kd.C (Kd.int .i64) w A0_0 l0_0.length l0_0) (hc0_0 : l0_0.length ≤ c0_0) (hr0_1 : Kd.C (Kd.int .i64) w A0_1 l0_1.length l0_1) (hc0_1 : l0_1.length ≤ c0_1) (h : Z33.f k l0_0 l0_1 = some r) :
  Calls Try.prog 85 #[.agg #[.slice A0_0 l0_0.length c0_0, .slice A0_1 l0_1.length c0_1]] w fun e w' => e = .returned (.bool r) ∧ Below w.heap.size w w' := by
 have hu33 := Try.underlying33
 have HR0_0 := A_ hr0_0
 have HC0_0 := A_ hc0_0
 clear hr0_0 hc0_0
 have HR0_1 := A_ hr0_1
 have HC0_1 := A_ hc0_1
 clear hr0_1 hc0_1
 have HB := A_ (Below.refl w.heap.size w)
 have H := h
 unfold Z33.f at H
 clear h
 obtain ⟨t548, A2, H⟩ := bi_ H
 obtain rfl := Option.some.inj H
 go_enter Try.func85, Try.ntmps85
 go_wp2_with (first | ((with_reducible refine gB_ (N := 1) rfl ?_); refine bx_ 1 #[.slice A0_0 l0_0.length c0_0, .slice A0_1 l0_1.length c0_1] 33 ?_; intro gb547 hg w3 hbox hb; have BK547 := A_ hbox; have GW547 := gw_ w hg; have GE547 := GW547; replace HB := b1_ hb; clear hb hbox hg; obtain ⟨hcz4_0, hcz4_1, hfz4_0, hfz4_1⟩ := c2_ BK547) | ((with_reducible refine gA_ (f := 127) rfl ?_); refine gL_ (some 7) Try.func127 #[.slice A0_0 l0_0.length c0_0, .slice A0_1 l0_1.length c0_1] rfl qa_ ?_; (with_reducible refine (Z14.calls k _ _ l0_0 _ _ l0_1 t548 _ (cb_ HR0_0) HC0_0.out (cb_ HR0_1) HC0_1.out A2.out).mono ?_); rintro e w5 ⟨rfl, hb⟩; refine ⟨_, rfl, ?_⟩; replace BK547 := bb_ BK547 hb; replace HB := b1_ hb; clear hb))
 go_ret
 exact ⟨qb_, hB_⟩
def Z53.l0 : Nat → Int → Int → List Int → Int → Int → Option (List Int × List Int × Int × Int)
 | 0, _, _, _, _, _ => none
 | k + 1, x5, x6, x1000, x1001, x1002 => if x6 < 8 then ((Z51.f k x1000 x1001 x1002 x5).bind fun bt561 => ((Z51.f k x1000 bt561.2.1 bt561.2.2 x5).bind fun bt566 => ((Z33.f k bt561.1 bt566.1).bind fun t572 => (if t572 = true then (some (bt561.1, bt566.1, bt566.2.1, bt566.2.2)) else (Z53.l0 k x5 (wrap64 (x6 + 1)) x1000 bt566.2.1 bt566.2.2))))) else ((Z65.f k x5 1).bind fun bt553 => (some (bt553.1, bt553.2.1, x1001, x1002)))
def Z53.f (k : Nat) (s0_0 : List Int) (s0_1 : Int) (s0_2 : Int) (a1 : Int) : Option (List Int × List Int × Int × Int) := (Z42.f s0_0 s0_1 s0_2 a1).bind fun bt550 => (Z53.l0 k (wrap64 (1 + bt550.1)) 0 s0_0 bt550.2.1 bt550.2.2)
theorem Z53.mono_l : ∀ k, (∀ y0 y1 y2 y3 y4, LeO (Z53.l0 k y0 y1 y2 y3 y4) (Z53.l0 (k + 1) y0 y1 y2 y3 y4))
 | 0 => fun _ _ _ _ _ r h => by simp [Z53.l0] at h
 | k + 1 => by
  have ih0 := Z53.mono_l k
  ·intro y0 y1 y2 y3 y4
   unfold Z53.l0
   repeat' first|exact ih0 _ _ _ _ _|exact Z65.mono _ _ _|exact Z33.mono _ _ _|exact Z51.mono _ _ _ _ _|exact lo_|refine LeO.ite ?_ ?_|refine LeO.bind ?_ (fun _ => ?_)
theorem Z53.mono : ∀ a0 a1 a2 a3 k, LeO (Z53.f k a0 a1 a2 a3) (Z53.f (k + 1) a0 a1 a2 a3) := by
 intro a0 a1 a2 a3 k
 have ih0 := Z53.mono_l k
 unfold Z53.f
 repeat' first|exact ih0 _ _ _ _ _|exact Z65.mono _ _ _|exact Z33.mono _ _ _|exact Z51.mono _ _ _ _ _|exact lo_|refine LeO.ite ?_ ?_|refine LeO.bind ?_ (fun _ => ?_)
set_option maxHeartbeats 8000000 in
set_option maxRecDepth 100000 in
theorem Z53.calls (k : Nat) (g : Nat) (s0_0 : List Int) (s0_1 : Int) (s0_2 : Int) (a1 : Int) (r1 : List Int) (r2 : List Int) (r3 : Int) (r4 : Int) (w0 w : World) (hI : IsS102 w0 w g s0_0 s0_1 s0_2) (hB : Below w0.heap.size w0 w) (h : Z53.f k s0_0 s0_1 s0_2 a1 = some (r1, r2, r3, r4)) :
  Calls Try.prog 67 #[.pointer (some ⟨g, 0, none⟩), .int .i64 a1] w fun e w' => ∃ v0_ v1_ : Value, e = .returned (.agg #[v0_, v1_]) ∧ Kd.R (Kd.int .i64) 3 w' w.heap.size (fun k_ => some k_ ≠ (v1_ : Value).ownBlock) v0_ r1 ∧ Kd.R (Kd.int .i64) 3 w' w.heap.size (fun k_ => some k_ ≠ (v0_ : Value).ownBlock) v1_ r2 ∧ IsS102 w0 w' g s0_0 r3 r4 ∧ Below w0.heap.size w0 w' ∧ KeepBut w w' g none := by
 have hu33 := Try.underlying33
 have HI0 := A_ hI
 have HK := A_ (KeepBut.refl w g none)
 have HL := A_ hB.size
 clear hI
 have HW0 := A_ hB.size
 have HB := A_ hB
 clear hB
 have H := h
 unfold Z53.f at H
 clear h
 obtain ⟨⟨t550, t551, t552⟩, A3, H⟩ := bi_ H
 try dsimp only at H
 have H' := A_ H
 clear H
 go_enter Try.func67, Try.ntmps67
 go_wp2_with (first | ((with_reducible refine gB_ (N := 4) rfl ?_); refine bx_ 4 #[.slice none 0 0, .slice none 0 0] 33 ?_; intro gb549 hg w4 hbox hb; replace HB := b2_ hb; have BK549 := A_ hbox; have GW549 := A_ ((gx_ hg (keep_size (w := w) (g := g) (row := none) hK_) : w.heap.size ≤ gb549)); have GE549 := A_ ((Nat.le_trans HW0.out (gx_ hg (keep_size (w := w) (g := g) (row := none) hK_) : w.heap.size ≤ gb549) : w0.heap.size ≤ gb549)); replace HK := A_ (KeepBut.trans hK_ (KeepBut.of_below hb g none) (.inl rfl)); have NB0_549 := A_ ((gn_ hg (IsS102.lt (show IsS102 w0 _ g s0_0 s0_1 s0_2 from hI_IsS102_HI0)) : g ≠ gb549)); have NB549_0 := A_ ((gp_ hg (IsS102.lt (show IsS102 w0 _ g s0_0 s0_1 s0_2 from hI_IsS102_HI0)) : gb549 ≠ g)); replace HI0 := A_ (IsS102.below hI_IsS102_HI0 hb); clear hb hbox hg) | ((with_reducible refine gA_ (f := 63) rfl ?_); refine gL_ (some 12) Try.func63 #[.pointer (some ⟨g, 0, none⟩), .int .i64 a1] rfl qa_ ?_; (with_reducible refine (Z42.calls g s0_0 s0_1 s0_2 a1 t550 t551 t552 w0 _ ?side1 ?side2 A3.out).mono ?_); (case side1 => repeat (first | (with_reducible first | exact HI0.out | apply IsS102.alloc | apply IsS102.drewN | apply IsS102.drew | apply IsS102.set_1 | apply IsS102.set_2 | refine IsS102.far ?_ NB0_549.out _) | exact HI0.out)); (case side2 => repeat (first | (with_reducible first | exact HB.out | apply bA_ | apply bB_ | apply bC_ | refine bD_ ?_ (IsS102.ge HI0.out) | refine bD_ ?_ GE549.out) | exact HB.out)); rintro e w5 ⟨rfl, hi, hb, hk⟩; refine ⟨_, rfl, ?_⟩; replace BK549 := A_ (KeepBut.blk hk (kk_ BK549) NB549_0.out (by simp)); replace HK := A_ (KeepBut.trans hK_ hk (.inl rfl)); replace HB := A_ hb; replace HI0 := A_ hi; clear hb hk hi))
 go_loopg [6] k (fun kq v6 w' => ∃ (x6_1 : Int) (x1001_1 : Int) (x1002_1 : Int), v6 = .int .i64 x6_1 ∧ Aside0 (Z53.l0 kq (wrap64 (1 + t550)) x6_1 s0_0 x1001_1 x1002_1 = some (r1, r2, r3, r4)) ∧ Aside0 (kq ≤ k) ∧ Aside0 (w'.heap[gb549]? = some (.cells #[(.slice none 0 0), (.slice none 0 0)] 33 (0, 0))) ∧ Aside0 (IsS102 w0 w' g s0_0 x1001_1 x1002_1) ∧ Aside0 (KeepBut w w' g none) ∧ Aside0 (Below w0.heap.size w0 w'))
 case atStart => exact ⟨(0), (t551), (t552), qc_, H', ⟨nA_ _⟩, ⟨(kk_ BK549)⟩, ⟨hI_IsS102_HI0⟩, ⟨hK_⟩, ⟨hBI_⟩⟩
 case round =>
  clear H'
  obtain ⟨x6_1, x1001_1, x1002_1, rfl, HA, HK1, BK549, HI0, HK, HB⟩ := hrel
  cases gk with
  | zero => exact absurd HA.out (by simp [Z53.l0])
  | succ k1 =>
   have H := HA.out
   clear HA
   simp only [Z53.l0] at H
   by_cases c6 : x6_1 < 8
   ·rw [if_pos c6] at H
    have c6b0 := oC_ c6
    clear c6
    obtain ⟨⟨t561, t564, t565⟩, A7, H⟩ := bi_ H
    try dsimp only at H
    obtain ⟨⟨t566, t569, t570⟩, A8, H⟩ := bi_ H
    try dsimp only at H
    obtain ⟨t572, A9, H⟩ := bi_ H
    by_cases c10 : t572 = true
    ·subst c10
     rw [if_pos rfl] at H
     simp only [Option.some.injEq, Prod.mk.injEq] at H
     obtain ⟨rfl, rfl, rfl, rfl⟩ := H
     go_wp2_with (first | ((with_reducible refine gA_ (f := 57) rfl ?_); refine gL_ (some 20) Try.func57 #[.pointer (some ⟨g, 0, none⟩), .int .i64 (wrap64 (1 + t550))] rfl qa_ ?_; (with_reducible refine (Z51.calls k1 g s0_0 x1001_1 x1002_1 (wrap64 (1 + t550)) t561 t564 t565 w0 _ ?side1 ?side2 A7.out).mono ?_); (case side1 => repeat (first | (with_reducible first | exact HI0.out | apply IsS102.alloc | apply IsS102.drewN | apply IsS102.drew | apply IsS102.set_1 | apply IsS102.set_2 | refine IsS102.far ?_ NB0_549.out _) | exact HI0.out)); (case side2 => repeat (first | (with_reducible first | exact HB.out | apply bA_ | apply bB_ | apply bC_ | refine bD_ ?_ (IsS102.ge HI0.out) | refine bD_ ?_ GE549.out) | exact HB.out)); rintro e w11 ⟨v562, rfl, ho0, hi, hb, hk⟩; refine ⟨_, rfl, ?_⟩; replace BK549 := A_ (KeepBut.blk hk (kk_ BK549) NB549_0.out (by simp)); have HO563 := A_ (rE_ ho0 (keep_size (w := w) (g := g) (row := none) hK_)); replace HK := A_ (KeepBut.trans hK_ hk (.inl rfl)); replace HB := A_ hb; replace HI0 := A_ hi; clear hb hk hi ho0) | ((with_reducible refine gA_ (f := 57) rfl ?_); refine gL_ (some 23) Try.func57 #[.pointer (some ⟨g, 0, none⟩), .int .i64 (wrap64 (1 + t550))] rfl qa_ ?_; (with_reducible refine (Z51.calls k1 g s0_0 t564 t565 (wrap64 (1 + t550)) t566 t569 t570 w0 _ ?side1 ?side2 A8.out).mono ?_); (case side1 => repeat (first | (with_reducible first | exact HI0.out | apply IsS102.alloc | apply IsS102.drewN | apply IsS102.drew | apply IsS102.set_1 | apply IsS102.set_2 | refine IsS102.far ?_ NB0_549.out _) | exact HI0.out)); (case side2 => repeat (first | (with_reducible first | exact HB.out | apply bA_ | apply bB_ | apply bC_ | refine bD_ ?_ (IsS102.ge HI0.out) | refine bD_ ?_ GE549.out) | exact HB.out)); rintro e w12 ⟨v567, rfl, ho0, hi, hb, hk⟩; refine ⟨_, rfl, ?_⟩; replace BK549 := A_ (KeepBut.blk hk (kk_ BK549) NB549_0.out (by simp)); have HO568 := A_ (rE_ (Kd.R_new' ho0 (Kd.R_lt (rr_ HO563))) (keep_size (w := w) (g := g) (row := none) hK_)); replace HO563 := A_ (Kd.R_mono (Kd.R_told (Kd.R_oldK (IsS102.apart (show IsS102 w0 _ g s0_0 t564 t565 from hI_IsS102_HI0) (rr_ HO563) (by decide)) hk) (Kd.R_base ho0)) (fun _ h_ => h_.1)); replace HK := A_ (KeepBut.trans hK_ hk (.inl rfl)); replace HB := A_ hb; replace HI0 := A_ hi; clear hb hk hi ho0; obtain ⟨Ao13, co13, eo13⟩ := Kd.R_slice HO568.out; subst eo13; obtain ⟨Ao14, co14, eo14⟩ := Kd.R_slice HO563.out; subst eo14) | ((with_reducible refine gB_ (N := 7) rfl ?_); refine bx_ 7 #[.slice none 0 0, .slice none 0 0] 33 ?_; intro gb571 hg w15 hbox hb; replace HO563 := rb_ HO563 hb; replace HO568 := rb_ HO568 hb; replace HB := b2_ hb; have BK571 := A_ hbox; have GW571 := A_ ((gx_ hg (keep_size (w := w) (g := g) (row := none) hK_) : w.heap.size ≤ gb571)); have GE571 := A_ ((Nat.le_trans HW0.out (gx_ hg (keep_size (w := w) (g := g) (row := none) hK_) : w.heap.size ≤ gb571) : w0.heap.size ≤ gb571)); replace HK := A_ (KeepBut.trans hK_ (KeepBut.of_below hb g none) (.inl rfl)); have NB549_571 := gN_ BK549 hg; have NB571_549 := gP_ BK549 hg; replace BK549 := bb_ BK549 hb; have NB0_571 := A_ ((gn_ hg (IsS102.lt (show IsS102 w0 _ g s0_0 t569 t570 from hI_IsS102_HI0)) : g ≠ gb571)); have NB571_0 := A_ ((gp_ hg (IsS102.lt (show IsS102 w0 _ g s0_0 t569 t570 from hI_IsS102_HI0)) : gb571 ≠ g)); replace HI0 := A_ (IsS102.below hI_IsS102_HI0 hb); clear hb hbox hg; have hnb16 := NB571_549.out; have hnc16 := NB549_571.out; have hnb17 := NB571_0.out; have hnc17 := NB0_571.out; obtain ⟨hcz18_0, hcz18_1, hfz18_0, hfz18_1⟩ := c2_ BK571) | ((with_reducible refine gA_ (f := 85) rfl ?_); refine gL_ (some 26) Try.func85 #[.agg #[.slice Ao14 t561.length co14, .slice Ao13 t566.length co13]] rfl qa_ ?_; (with_reducible refine (Z33.calls k1 _ _ t561 _ _ t566 true _ ?side1 ?side2 ?side3 ?side4 A9.out).mono ?_); (case side1 => refine (Kd.R_reads' (e := 3) (base := w.heap.size) (ok := fun k_ => (True ∧ some k_ ≠ (.slice Ao13 t566.length co13 : Value).ownBlock)) (n := t561.length) (c := co14) ?_).2.2; exact (rw_ (fa_ HO563 BK571))); (case side2 => exact (Kd.R_reads' HO563.out).2.1); (case side3 => refine (Kd.R_reads' (e := 3) (base := w.heap.size) (ok := fun k_ => (True ∧ some k_ ≠ (.slice Ao14 t561.length co14 : Value).ownBlock)) (n := t566.length) (c := co13) ?_).2.2; exact (rw_ (fa_ HO568 BK571))); (case side4 => exact (Kd.R_reads' HO568.out).2.1); rintro e w19 ⟨rfl, hb⟩; refine ⟨_, rfl, ?_⟩; replace HO563 := A_ (rD_ (rw_ (fa_ HO563 BK571)) hb); replace HO568 := A_ (rD_ (rw_ (fa_ HO568 BK571)) hb); replace BK549 := A_ (kE_ (g := gb549) (o := .cells #[.slice none 0 0, .slice none 0 0] 33 (0, 0)) (by (with_reducible repeat (first | refine kA_ ?_ _ | refine kB_ ?_ | refine kC_ ?_ _)); refine blk_far ?_ NB549_571.out _; (with_reducible repeat (first | refine kA_ ?_ _ | refine kB_ ?_ | refine kC_ ?_ _)); refine blk_far ?_ NB549_571.out _; (with_reducible repeat (first | refine kA_ ?_ _ | refine kB_ ?_ | refine kC_ ?_ _)); exact BK549.out) hb); replace BK571 := A_ (kE_ (g := gb571) (o := .cells #[.slice Ao14 t561.length co14, .slice Ao13 t566.length co13] 33 (0, 0)) qp_ hb); replace HK := A_ (KeepBut.trans hK_ (KeepBut.of_below hb g none) (.inl rfl)); replace HB := b2_ hb; replace HI0 := A_ (IsS102.below (show IsS102 w0 ((w15.setCell ⟨gb571, 0, none⟩ (.slice Ao14 t561.length co14)).setCell ⟨gb571, 1, none⟩ (.slice Ao13 t566.length co13)) g s0_0 t569 t570 from hI_IsS102_HI0) hb); clear hb; obtain ⟨hcz20_0, hcz20_1, hfz20_0, hfz20_1⟩ := c2_ BK571; have hnb21 := NB549_0.out; have hnc21 := NB0_549.out; obtain ⟨hcz22_0, hcz22_1, hfz22_0, hfz22_1⟩ := c2_ BK549))
     refine bodyPost_ret (results_cell_row rfl _ _ gb549 33 #[.slice Ao14 t561.length co14, .slice Ao13 t566.length co13] (0, 0) _ rfl qp_ Try.underlying33 rfl (by kernel_rfl)) rfl ?_
     exact ⟨_, _, qb_, (rw_ (Kd.R_mono (fa_ HO563 BK549) (fun _ hk => hk.2))), (rw_ (Kd.R_mono (fa_ HO568 BK549) (fun _ hk => hk.2))), hI_IsS102_HI0, hBI_, hK_⟩
    ·replace c10 := Bool.eq_false_iff.mpr c10
     subst c10
     have H1 : (Z53.l0 k1 (wrap64 (1 + t550)) (wrap64 (x6_1 + 1)) s0_0 t569 t570) = some (r1, r2, r3, r4) := by rw [if_neg (show ¬ (false = true) by decide)] at H; exact H
     clear H
     have H := H1
     clear H1
     have H' := A_ H
     clear H
     go_wp2_with (first | ((with_reducible refine gA_ (f := 57) rfl ?_); refine gL_ (some 20) Try.func57 #[.pointer (some ⟨g, 0, none⟩), .int .i64 (wrap64 (1 + t550))] rfl qa_ ?_; (with_reducible refine (Z51.calls k1 g s0_0 x1001_1 x1002_1 (wrap64 (1 + t550)) t561 t564 t565 w0 _ ?side1 ?side2 A7.out).mono ?_); (case side1 => repeat (first | (with_reducible first | exact HI0.out | apply IsS102.alloc | apply IsS102.drewN | apply IsS102.drew | apply IsS102.set_1 | apply IsS102.set_2 | refine IsS102.far ?_ NB0_549.out _) | exact HI0.out)); (case side2 => repeat (first | (with_reducible first | exact HB.out | apply bA_ | apply bB_ | apply bC_ | refine bD_ ?_ (IsS102.ge HI0.out) | refine bD_ ?_ GE549.out) | exact HB.out)); rintro e w23 ⟨v562, rfl, ho0, hi, hb, hk⟩; refine ⟨_, rfl, ?_⟩; replace BK549 := A_ (KeepBut.blk hk (kk_ BK549) NB549_0.out (by simp)); have HO563 := A_ (rE_ ho0 (keep_size (w := w) (g := g) (row := none) hK_)); replace HK := A_ (KeepBut.trans hK_ hk (.inl rfl)); replace HB := A_ hb; replace HI0 := A_ hi; clear hb hk hi ho0) | ((with_reducible refine gA_ (f := 57) rfl ?_); refine gL_ (some 23) Try.func57 #[.pointer (some ⟨g, 0, none⟩), .int .i64 (wrap64 (1 + t550))] rfl qa_ ?_; (with_reducible refine (Z51.calls k1 g s0_0 t564 t565 (wrap64 (1 + t550)) t566 t569 t570 w0 _ ?side1 ?side2 A8.out).mono ?_); (case side1 => repeat (first | (with_reducible first | exact HI0.out | apply IsS102.alloc | apply IsS102.drewN | apply IsS102.drew | apply IsS102.set_1 | apply IsS102.set_2 | refine IsS102.far ?_ NB0_549.out _) | exact HI0.out)); (case side2 => repeat (first | (with_reducible first | exact HB.out | apply bA_ | apply bB_ | apply bC_ | refine bD_ ?_ (IsS102.ge HI0.out) | refine bD_ ?_ GE549.out) | exact HB.out)); rintro e w24 ⟨v567, rfl, ho0, hi, hb, hk⟩; refine ⟨_, rfl, ?_⟩; replace BK549 := A_ (KeepBut.blk hk (kk_ BK549) NB549_0.out (by simp)); have HO568 := A_ (rE_ (Kd.R_new' ho0 (Kd.R_lt (rr_ HO563))) (keep_size (w := w) (g := g) (row := none) hK_)); replace HO563 := A_ (Kd.R_mono (Kd.R_told (Kd.R_oldK (IsS102.apart (show IsS102 w0 _ g s0_0 t564 t565 from hI_IsS102_HI0) (rr_ HO563) (by decide)) hk) (Kd.R_base ho0)) (fun _ h_ => h_.1)); replace HK := A_ (KeepBut.trans hK_ hk (.inl rfl)); replace HB := A_ hb; replace HI0 := A_ hi; clear hb hk hi ho0; obtain ⟨Ao25, co25, eo25⟩ := Kd.R_slice HO568.out; subst eo25; obtain ⟨Ao26, co26, eo26⟩ := Kd.R_slice HO563.out; subst eo26) | ((with_reducible refine gB_ (N := 7) rfl ?_); refine bx_ 7 #[.slice none 0 0, .slice none 0 0] 33 ?_; intro gb571 hg w27 hbox hb; replace HO563 := rb_ HO563 hb; replace HO568 := rb_ HO568 hb; replace HB := b2_ hb; have BK571 := A_ hbox; have GW571 := A_ ((gx_ hg (keep_size (w := w) (g := g) (row := none) hK_) : w.heap.size ≤ gb571)); have GE571 := A_ ((Nat.le_trans HW0.out (gx_ hg (keep_size (w := w) (g := g) (row := none) hK_) : w.heap.size ≤ gb571) : w0.heap.size ≤ gb571)); replace HK := A_ (KeepBut.trans hK_ (KeepBut.of_below hb g none) (.inl rfl)); have NB549_571 := gN_ BK549 hg; have NB571_549 := gP_ BK549 hg; replace BK549 := bb_ BK549 hb; have NB0_571 := A_ ((gn_ hg (IsS102.lt (show IsS102 w0 _ g s0_0 t569 t570 from hI_IsS102_HI0)) : g ≠ gb571)); have NB571_0 := A_ ((gp_ hg (IsS102.lt (show IsS102 w0 _ g s0_0 t569 t570 from hI_IsS102_HI0)) : gb571 ≠ g)); replace HI0 := A_ (IsS102.below hI_IsS102_HI0 hb); clear hb hbox hg; have hnb28 := NB571_549.out; have hnc28 := NB549_571.out; have hnb29 := NB571_0.out; have hnc29 := NB0_571.out; obtain ⟨hcz30_0, hcz30_1, hfz30_0, hfz30_1⟩ := c2_ BK571) | ((with_reducible refine gA_ (f := 85) rfl ?_); refine gL_ (some 26) Try.func85 #[.agg #[.slice Ao26 t561.length co26, .slice Ao25 t566.length co25]] rfl qa_ ?_; (with_reducible refine (Z33.calls k1 _ _ t561 _ _ t566 false _ ?side1 ?side2 ?side3 ?side4 A9.out).mono ?_); (case side1 => refine (Kd.R_reads' (e := 3) (base := w.heap.size) (ok := fun k_ => (True ∧ some k_ ≠ (.slice Ao25 t566.length co25 : Value).ownBlock)) (n := t561.length) (c := co26) ?_).2.2; exact (rw_ (fa_ HO563 BK571))); (case side2 => exact (Kd.R_reads' HO563.out).2.1); (case side3 => refine (Kd.R_reads' (e := 3) (base := w.heap.size) (ok := fun k_ => (True ∧ some k_ ≠ (.slice Ao26 t561.length co26 : Value).ownBlock)) (n := t566.length) (c := co25) ?_).2.2; exact (rw_ (fa_ HO568 BK571))); (case side4 => exact (Kd.R_reads' HO568.out).2.1); rintro e w31 ⟨rfl, hb⟩; refine ⟨_, rfl, ?_⟩; replace HO563 := A_ (rD_ (rw_ (fa_ HO563 BK571)) hb); replace HO568 := A_ (rD_ (rw_ (fa_ HO568 BK571)) hb); replace BK549 := A_ (kE_ (g := gb549) (o := .cells #[.slice none 0 0, .slice none 0 0] 33 (0, 0)) (by (with_reducible repeat (first | refine kA_ ?_ _ | refine kB_ ?_ | refine kC_ ?_ _)); refine blk_far ?_ NB549_571.out _; (with_reducible repeat (first | refine kA_ ?_ _ | refine kB_ ?_ | refine kC_ ?_ _)); refine blk_far ?_ NB549_571.out _; (with_reducible repeat (first | refine kA_ ?_ _ | refine kB_ ?_ | refine kC_ ?_ _)); exact BK549.out) hb); replace BK571 := A_ (kE_ (g := gb571) (o := .cells #[.slice Ao26 t561.length co26, .slice Ao25 t566.length co25] 33 (0, 0)) qp_ hb); replace HK := A_ (KeepBut.trans hK_ (KeepBut.of_below hb g none) (.inl rfl)); replace HB := b2_ hb; replace HI0 := A_ (IsS102.below (show IsS102 w0 ((w27.setCell ⟨gb571, 0, none⟩ (.slice Ao26 t561.length co26)).setCell ⟨gb571, 1, none⟩ (.slice Ao25 t566.length co25)) g s0_0 t569 t570 from hI_IsS102_HI0) hb); clear hb))
     go_roundg k1
     case measure => have := HK1.out; omega
     case rel => exact ⟨(wrap64 (x6_1 + 1)), (t569), (t570), qc_, H', ⟨by have := HK1.out; omega⟩, ⟨(kk_ BK549)⟩, ⟨hI_IsS102_HI0⟩, ⟨hK_⟩, ⟨hBI_⟩⟩
   ·rw [if_neg c6] at H
    have c6b0 := oD_ c6
    clear c6
    obtain ⟨⟨t553, t556, t559⟩, A32, H⟩ := bi_ H
    try dsimp only at H
    simp only [Option.some.injEq, Prod.mk.injEq] at H
    obtain ⟨rfl, rfl, rfl, rfl⟩ := H
    go_wp2_with (first | ((with_reducible refine gA_ (f := 66) rfl ?_); refine gL_ (some 30) Try.func66 #[.int .i64 (wrap64 (1 + t550)), .int .i64 1] rfl qa_ ?_; (with_reducible refine (Z65.calls k1 (wrap64 (1 + t550)) 1 t553 t556 t559 _ A32.out).mono ?_); rintro e w33 ⟨v554, v557, rfl, ho0, ho1, hb⟩; refine ⟨_, rfl, ?_⟩; have HO555 := A_ (rE_ ho0 (keep_size (w := w) (g := g) (row := none) hK_)); have HO558 := A_ (rE_ ho1 (keep_size (w := w) (g := g) (row := none) hK_)); replace BK549 := bb_ BK549 hb; replace HK := A_ (KeepBut.trans hK_ (KeepBut.of_below hb g none) (.inl rfl)); replace HB := b2_ hb; replace HI0 := A_ (IsS102.below hI_IsS102_HI0 hb); clear hb ho0 ho1) | ((with_reducible refine gB_ (N := 8) rfl ?_); refine bx_ 8 #[.slice none 0 0, .slice none 0 0] 33 ?_; intro gb560 hg w34 hbox hb; replace HO555 := rb_ HO555 hb; replace HO558 := rb_ HO558 hb; replace HB := b2_ hb; have BK560 := A_ hbox; have GW560 := A_ ((gx_ hg (keep_size (w := w) (g := g) (row := none) hK_) : w.heap.size ≤ gb560)); have GE560 := A_ ((Nat.le_trans HW0.out (gx_ hg (keep_size (w := w) (g := g) (row := none) hK_) : w.heap.size ≤ gb560) : w0.heap.size ≤ gb560)); replace HK := A_ (KeepBut.trans hK_ (KeepBut.of_below hb g none) (.inl rfl)); have NB549_560 := gN_ BK549 hg; have NB560_549 := gP_ BK549 hg; replace BK549 := bb_ BK549 hb; have NB0_560 := A_ ((gn_ hg (IsS102.lt (show IsS102 w0 _ g s0_0 x1001_1 x1002_1 from hI_IsS102_HI0)) : g ≠ gb560)); have NB560_0 := A_ ((gp_ hg (IsS102.lt (show IsS102 w0 _ g s0_0 x1001_1 x1002_1 from hI_IsS102_HI0)) : gb560 ≠ g)); replace HI0 := A_ (IsS102.below hI_IsS102_HI0 hb); clear hb hbox hg; obtain ⟨Ao35, co35, eo35⟩ := Kd.R_slice HO555.out; subst eo35; have hnb36 := NB560_549.out; have hnc36 := NB549_560.out; have hnb37 := NB560_0.out; have hnc37 := NB0_560.out; obtain ⟨hcz38_0, hcz38_1, hfz38_0, hfz38_1⟩ := c2_ BK560; obtain ⟨Ao39, co39, eo39⟩ := Kd.R_slice HO558.out; subst eo39; have hnb40 := NB549_0.out; have hnc40 := NB0_549.out; obtain ⟨hcz41_0, hcz41_1, hfz41_0, hfz41_1⟩ := c2_ BK549))
    refine bodyPost_ret (results_cell_row rfl _ _ gb549 33 #[.slice Ao35 t553.length co35, .slice Ao39 t556.length co39] (0, 0) _ rfl (by (with_reducible repeat (first | refine kA_ ?_ _ | refine kB_ ?_ | refine kC_ ?_ _)); refine blk_put (cs := #[.slice Ao35 t553.length co35, .slice none 0 0]) ?_ 1 _ rfl; (with_reducible repeat (first | refine kA_ ?_ _ | refine kB_ ?_ | refine kC_ ?_ _)); refine blk_put (cs := #[.slice none 0 0, .slice none 0 0]) ?_ 0 _ rfl; (with_reducible repeat (first | refine kA_ ?_ _ | refine kB_ ?_ | refine kC_ ?_ _)); refine blk_far ?_ NB549_560.out _; (with_reducible repeat (first | refine kA_ ?_ _ | refine kB_ ?_ | refine kC_ ?_ _)); refine blk_far ?_ NB549_560.out _; (with_reducible repeat (first | refine kA_ ?_ _ | refine kB_ ?_ | refine kC_ ?_ _)); exact BK549.out) Try.underlying33 rfl (by kernel_rfl)) rfl ?_
    exact ⟨_, _, qb_, (rw_ (Kd.R_mono (Kd.R_far (p := ⟨gb549, 1, none⟩) (Kd.R_far (p := ⟨gb549, 0, none⟩) (Kd.R_far (p := ⟨gb560, 1, none⟩) (Kd.R_far (p := ⟨gb560, 0, none⟩) (Kd.R_types (Kd.R_types HO555.out BK560.out (by decide)) BK549.out (by decide)) (fun _ hk => hk.1.2) (.slice Ao35 t553.length co35)) (fun _ hk => hk.1.2) (.slice Ao39 t556.length co39)) (fun _ hk => hk.2) (.slice Ao35 t553.length co35)) (fun _ hk => hk.2) (.slice Ao39 t556.length co39)) (fun _ hk => hk.1.1))), (rw_ (Kd.R_mono (Kd.R_far (p := ⟨gb549, 1, none⟩) (Kd.R_far (p := ⟨gb549, 0, none⟩) (Kd.R_far (p := ⟨gb560, 1, none⟩) (Kd.R_far (p := ⟨gb560, 0, none⟩) (Kd.R_types (Kd.R_types HO558.out BK560.out (by decide)) BK549.out (by decide)) (fun _ hk => hk.1.2) (.slice Ao35 t553.length co35)) (fun _ hk => hk.1.2) (.slice Ao39 t556.length co39)) (fun _ hk => hk.2) (.slice Ao35 t553.length co35)) (fun _ hk => hk.2) (.slice Ao39 t556.length co39)) (fun _ hk => hk.1.1))), hI_IsS102_HI0, hBI_, hK_⟩
def Z21.l0 : Nat → Int → List Int → List Int → Option (List Int × List Int)
 | 0, _, _, _ => none
 | k + 1, x6, x595000, x595001 => if x6 > 0 then ((Z44.f k x595000 x595001).bind fun bt598 => (Z21.l0 k (wrap64 (x6 - 1)) bt598.1 bt598.2)) else (some (x595000, x595001))
def Z21.f (k : Nat) (l0 : List Int) : Option (List Int × List Int) := (Z61.f k l0).bind fun bt574 => ((Z42.f bt574.1 bt574.2.1 bt574.2.2 4).bind fun bt578 => (if bt578.1 = 0 then ((Z42.f bt574.1 bt578.2.1 bt578.2.2 4).bind fun bt581 => ((Z42.f bt574.1 bt581.2.1 bt581.2.2 3).bind fun bt584 => ((Z49.f k (wrap64 (1 + bt581.1)) (wrap64 (1 + bt584.1))).bind fun bt587 => ((Z42.f bt574.1 bt584.2.1 bt584.2.2 4).bind fun bt595 => (Z21.l0 k bt595.1 bt587.1 bt587.2.1))))) else (if bt578.1 = 1 then ((Z42.f bt574.1 bt578.2.1 bt578.2.2 4).bind fun bt604 => ((Z42.f bt574.1 bt604.2.1 bt604.2.2 4).bind fun bt607 => ((Z65.f k (wrap64 (1 + bt604.1)) (wrap64 (1 + bt607.1))).bind fun bt610 => (some (bt610.1, bt610.2.1))))) else ((Z53.f k bt574.1 bt578.2.1 bt578.2.2 5).bind fun bt618 => (some (bt618.1, bt618.2.1))))))
theorem Z21.mono_l : ∀ k, (∀ y0 y1 y2, LeO (Z21.l0 k y0 y1 y2) (Z21.l0 (k + 1) y0 y1 y2))
 | 0 => fun _ _ _ r h => by simp [Z21.l0] at h
 | k + 1 => by
  have ih0 := Z21.mono_l k
  ·intro y0 y1 y2
   unfold Z21.l0
   repeat' first|exact ih0 _ _ _|exact Z65.mono _ _ _|exact Z49.mono _ _ _|exact Z61.mono _ _|exact Z53.mono _ _ _ _ _|exact Z44.mono _ _ _|exact lo_|refine LeO.ite ?_ ?_|refine LeO.bind ?_ (fun _ => ?_)
theorem Z21.mono : ∀ a0 k, LeO (Z21.f k a0) (Z21.f (k + 1) a0) := by
 intro a0 k
 have ih0 := Z21.mono_l k
 unfold Z21.f
 repeat' first|exact ih0 _ _ _|exact Z65.mono _ _ _|exact Z49.mono _ _ _|exact Z61.mono _ _|exact Z53.mono _ _ _ _ _|exact Z44.mono _ _ _|exact lo_|refine LeO.ite ?_ ?_|refine LeO.bind ?_ (fun _ => ?_)
set_option maxHeartbeats 8000000 in
set_option maxRecDepth 100000 in
theorem Z21.calls (k : Nat) (A0 : Option Addr) (c0 : Nat) (l0 : List Int) (r1 : List Int) (r2 : List Int) (w : World) (hr0 : Kd.C (Kd.int .u8) w A0 l0.length l0) (hc0 : l0.length ≤ c0) (h : Z21.f k l0 = some (r1, r2)) :
  Calls Try.prog 20 #[.slice A0 l0.length c0] w fun e w' => ∃ v0_ v1_ : Value, e = .returned (.agg #[v0_, v1_]) ∧ Kd.R (Kd.int .i64) 3 w' w.heap.size (fun k_ => some k_ ≠ (v1_ : Value).ownBlock) v0_ r1 ∧ Kd.R (Kd.int .i64) 3 w' w.heap.size (fun k_ => some k_ ≠ (v0_ : Value).ownBlock) v1_ r2 ∧ Below w.heap.size w w' := by
 have hu33 := Try.underlying33
 have HR0 := A_ hr0
 have HC0 := A_ hc0
 clear hr0 hc0
 have HB := A_ (Below.refl w.heap.size w)
 have H := h
 unfold Z21.f at H
 clear h
 obtain ⟨⟨t574, t575, t576⟩, A2, H⟩ := bi_ H
 try dsimp only at H
 obtain ⟨⟨t578, t579, t580⟩, A3, H⟩ := bi_ H
 try dsimp only at H
 by_cases c4 : t578 = 0
 ·rw [if_pos c4] at H
  have c4b0 : (t578 == 0) = true := beq_iff_eq.mpr c4
  have c4b1 : (t578 != 0) = false := bne_eq_false_iff_eq.mpr c4
  clear c4
  obtain ⟨⟨t581, t582, t583⟩, A5, H⟩ := bi_ H
  try dsimp only at H
  obtain ⟨⟨t584, t585, t586⟩, A6, H⟩ := bi_ H
  try dsimp only at H
  obtain ⟨⟨t587, t590, t593⟩, A7, H⟩ := bi_ H
  try dsimp only at H
  obtain ⟨⟨t595, t596, t597⟩, A8, H⟩ := bi_ H
  try dsimp only at H
  have H' := A_ H
  clear H
  go_enter Try.func20, Try.ntmps20
  go_wp2_with (first | ((with_reducible refine gB_ (N := 2) rfl ?_); refine bx_ 2 #[.slice none 0 0, .slice none 0 0] 33 ?_; intro gb573 hg w9 hbox hb; have BK573 := A_ hbox; have GW573 := gw_ w hg; have GE573 := GW573; replace HB := b1_ hb; clear hb hbox hg) | ((with_reducible refine gA_ (f := 62) rfl ?_); refine gL_ (some 10) Try.func62 #[.slice A0 l0.length c0] rfl qa_ ?_; (with_reducible refine (Z61.calls k _ _ l0 t574 t575 t576 w _ ?side1 ?side2 ?side3 A2.out).mono ?_); (case side1 => repeat (first | (with_reducible first | exact HB.out | apply bA_ | apply bB_ | apply bC_ | refine bD_ ?_ GE573.out) | exact HB.out)); (case side2 => exact HR0.out); (case side3 => exact HC0.out); rintro e w10 ⟨g577, rfl, hi, hb, hb2⟩; refine ⟨_, rfl, ?_⟩; replace HB := A_ hb; have HI577 := A_ hi; have NB577_573 := A_ (IsS102.ne_blk hi (kE_ (kk_ BK573) hb2) (by decide)); have NB573_577 := A_ (Ne.symm (IsS102.ne_blk hi (kE_ (kk_ BK573) hb2) (by decide))); replace BK573 := bb_ BK573 hb2; clear hb hb2 hi) | ((with_reducible refine gA_ (f := 63) rfl ?_); refine gL_ (some 12) Try.func63 #[.pointer (some ⟨g577, 0, none⟩), .int .i64 4] rfl qa_ ?_; (with_reducible refine (Z42.calls g577 t574 t575 t576 4 t578 t579 t580 w _ ?side1 ?side2 A3.out).mono ?_); (case side1 => repeat (first | (with_reducible first | exact HI577.out | apply IsS102.alloc | apply IsS102.drewN | apply IsS102.drew | apply IsS102.set_1 | apply IsS102.set_2 | refine IsS102.far ?_ NB577_573.out _) | exact HI577.out)); (case side2 => repeat (first | (with_reducible first | exact HB.out | apply bA_ | apply bB_ | apply bC_ | refine bD_ ?_ (IsS102.ge HI577.out) | refine bD_ ?_ GE573.out) | exact HB.out)); rintro e w11 ⟨rfl, hi, hb, hk⟩; refine ⟨_, rfl, ?_⟩; replace BK573 := A_ (KeepBut.blk hk (kk_ BK573) NB573_577.out (by simp)); replace HB := A_ hb; replace HI577 := A_ hi; clear hb hk hi) | ((with_reducible refine gA_ (f := 63) rfl ?_); refine gL_ (some 17) Try.func63 #[.pointer (some ⟨g577, 0, none⟩), .int .i64 4] rfl qa_ ?_; (with_reducible refine (Z42.calls g577 t574 t579 t580 4 t581 t582 t583 w _ ?side1 ?side2 A5.out).mono ?_); (case side1 => repeat (first | (with_reducible first | exact HI577.out | apply IsS102.alloc | apply IsS102.drewN | apply IsS102.drew | apply IsS102.set_1 | apply IsS102.set_2 | refine IsS102.far ?_ NB577_573.out _) | exact HI577.out)); (case side2 => repeat (first | (with_reducible first | exact HB.out | apply bA_ | apply bB_ | apply bC_ | refine bD_ ?_ (IsS102.ge HI577.out) | refine bD_ ?_ GE573.out) | exact HB.out)); rintro e w12 ⟨rfl, hi, hb, hk⟩; refine ⟨_, rfl, ?_⟩; replace BK573 := A_ (KeepBut.blk hk (kk_ BK573) NB573_577.out (by simp)); replace HB := A_ hb; replace HI577 := A_ hi; clear hb hk hi) | ((with_reducible refine gA_ (f := 63) rfl ?_); refine gL_ (some 20) Try.func63 #[.pointer (some ⟨g577, 0, none⟩), .int .i64 3] rfl qa_ ?_; (with_reducible refine (Z42.calls g577 t574 t582 t583 3 t584 t585 t586 w _ ?side1 ?side2 A6.out).mono ?_); (case side1 => repeat (first | (with_reducible first | exact HI577.out | apply IsS102.alloc | apply IsS102.drewN | apply IsS102.drew | apply IsS102.set_1 | apply IsS102.set_2 | refine IsS102.far ?_ NB577_573.out _) | exact HI577.out)); (case side2 => repeat (first | (with_reducible first | exact HB.out | apply bA_ | apply bB_ | apply bC_ | refine bD_ ?_ (IsS102.ge HI577.out) | refine bD_ ?_ GE573.out) | exact HB.out)); rintro e w13 ⟨rfl, hi, hb, hk⟩; refine ⟨_, rfl, ?_⟩; replace BK573 := A_ (KeepBut.blk hk (kk_ BK573) NB573_577.out (by simp)); replace HB := A_ hb; replace HI577 := A_ hi; clear hb hk hi) | ((with_reducible refine gA_ (f := 64) rfl ?_); refine gL_ (some 22) Try.func64 #[.int .i64 (wrap64 (1 + t581)), .int .i64 (wrap64 (1 + t584))] rfl qa_ ?_; (with_reducible refine (Z49.calls k (wrap64 (1 + t581)) (wrap64 (1 + t584)) t587 t590 t593 _ A7.out).mono ?_); rintro e w14 ⟨v588, v591, rfl, ho0, ho1, hb⟩; refine ⟨_, rfl, ?_⟩; have HO589 := A_ (rE_ ho0 (bF_ hBI_)); have HO592 := A_ (rE_ ho1 (bF_ hBI_)); replace BK573 := bb_ BK573 hb; replace HB := b2_ hb; replace HI577 := A_ (IsS102.below hI_IsS102_HI577 hb); clear hb ho0 ho1) | ((with_reducible refine gB_ (N := 4) rfl ?_); refine bx_ 4 #[.slice none 0 0, .slice none 0 0] 33 ?_; intro gb594 hg w15 hbox hb; replace HO589 := rb_ HO589 hb; replace HO592 := rb_ HO592 hb; have BK594 := A_ hbox; have GW594 := A_ ((gx_ hg (bF_ hBI_) : w.heap.size ≤ gb594)); have GE594 := A_ ((gx_ hg (bF_ hBI_) : w.heap.size ≤ gb594)); replace HB := b2_ hb; have NB573_594 := gN_ BK573 hg; have NB594_573 := gP_ BK573 hg; replace BK573 := bb_ BK573 hb; have NB577_594 := A_ ((gn_ hg (IsS102.lt (show IsS102 w _ g577 t574 t585 t586 from hI_IsS102_HI577)) : g577 ≠ gb594)); have NB594_577 := A_ ((gp_ hg (IsS102.lt (show IsS102 w _ g577 t574 t585 t586 from hI_IsS102_HI577)) : gb594 ≠ g577)); replace HI577 := A_ (IsS102.below hI_IsS102_HI577 hb); clear hb hbox hg; obtain ⟨Ao16, co16, eo16⟩ := Kd.R_slice HO589.out; subst eo16; have hnb17 := NB594_573.out; have hnc17 := NB573_594.out; have hnb18 := NB594_577.out; have hnc18 := NB577_594.out; obtain ⟨hcz19_0, hcz19_1, hfz19_0, hfz19_1⟩ := c2_ BK594; obtain ⟨Ao20, co20, eo20⟩ := Kd.R_slice HO592.out; subst eo20) | ((with_reducible refine gA_ (f := 63) rfl ?_); refine gL_ (some 26) Try.func63 #[.pointer (some ⟨g577, 0, none⟩), .int .i64 4] rfl qa_ ?_; (with_reducible refine (Z42.calls g577 t574 t585 t586 4 t595 t596 t597 w _ ?side1 ?side2 A8.out).mono ?_); (case side1 => repeat (first | (with_reducible first | exact HI577.out | apply IsS102.alloc | apply IsS102.drewN | apply IsS102.drew | apply IsS102.set_1 | apply IsS102.set_2 | refine IsS102.far ?_ NB577_573.out _ | refine IsS102.far ?_ NB577_594.out _) | exact HI577.out)); (case side2 => repeat (first | (with_reducible first | exact HB.out | apply bA_ | apply bB_ | apply bC_ | refine bD_ ?_ (IsS102.ge HI577.out) | refine bD_ ?_ GE573.out | refine bD_ ?_ GE594.out) | exact HB.out)); rintro e w21 ⟨rfl, hi, hb, hk⟩; refine ⟨_, rfl, ?_⟩; replace BK573 := A_ (KeepBut.blk hk (g' := gb573) (o := .cells #[.slice none 0 0, .slice none 0 0] 33 (0, 0)) (by (with_reducible repeat (first | refine kA_ ?_ _ | refine kB_ ?_ | refine kC_ ?_ _)); refine blk_far ?_ NB573_594.out _; (with_reducible repeat (first | refine kA_ ?_ _ | refine kB_ ?_ | refine kC_ ?_ _)); refine blk_far ?_ NB573_594.out _; (with_reducible repeat (first | refine kA_ ?_ _ | refine kB_ ?_ | refine kC_ ?_ _)); exact BK573.out) NB573_577.out (by simp)); replace HO589 := A_ (Kd.R_mono (Kd.R_keep (IsS102.apart (show IsS102 w _ g577 t574 t585 t586 from hI_IsS102_HI577) (rw_ (fa_ HO589 BK594)) (by decide)) hk (fun _ h => h.2)) (fun _ h => h.1)); replace HO592 := A_ (Kd.R_mono (Kd.R_keep (IsS102.apart (show IsS102 w _ g577 t574 t585 t586 from hI_IsS102_HI577) (rw_ (fa_ HO592 BK594)) (by decide)) hk (fun _ h => h.2)) (fun _ h => h.1)); replace BK594 := A_ (KeepBut.blk hk (g' := gb594) (o := .cells #[.slice Ao16 t587.length co16, .slice Ao20 t590.length co20] 33 (0, 0)) qp_ NB594_577.out (by simp)); replace HB := A_ hb; replace HI577 := A_ hi; clear hb hk hi))
  go_loopg [6] k (fun kq v6 w' => ∃ (x6_1 : Int) (x595000_1 : List Int) (x595001_1 : List Int) (u595000 : Value) (u595001 : Value), v6 = .int .i64 x6_1 ∧ Aside0 (Z21.l0 kq x6_1 x595000_1 x595001_1 = some (r1, r2)) ∧ Aside0 (kq ≤ k) ∧ Aside0 (Kd.R (Kd.int .i64) 3 w' w.heap.size (fun k_ => some k_ ≠ (u595001 : Value).ownBlock) u595000 x595000_1) ∧ Aside0 (Kd.R (Kd.int .i64) 3 w' w.heap.size (fun k_ => some k_ ≠ (u595000 : Value).ownBlock) u595001 x595001_1) ∧ Aside0 (w'.heap[gb573]? = some (.cells #[(.slice none 0 0), (.slice none 0 0)] 33 (0, 0))) ∧ Aside0 (w'.heap[gb594]? = some (.cells #[u595000, u595001] 33 (0, 0))) ∧ Aside0 (Below w.heap.size w w'))
  case atStart => exact ⟨(t595), (t587), (t590), (.slice Ao16 t587.length co16), (.slice Ao20 t590.length co20), qc_, H', ⟨nA_ _⟩, ⟨(rr_ HO589)⟩, ⟨(rr_ HO592)⟩, ⟨(kk_ BK573)⟩, ⟨(kk_ BK594)⟩, ⟨hBI_⟩⟩
  case round =>
   clear H'
   obtain ⟨x6_1, x595000_1, x595001_1, u595000, u595001, rfl, HA, HK1, HO_595000, HO_595001, BK573, BK594, HB⟩ := hrel
   cases gk with
   | zero => exact absurd HA.out (by simp [Z21.l0])
   | succ k1 =>
    have H := HA.out
    clear HA
    simp only [Z21.l0] at H
    by_cases c22 : x6_1 > 0
    ·rw [if_pos c22] at H
     have c22b0 : decide (0 < x6_1) = true := oC_ c22
     clear c22
     obtain ⟨⟨t598, t601⟩, A23, H⟩ := bi_ H
     try dsimp only at H
     have H' := A_ H
     clear H
     have hnb24 := NB594_573.out
     have hnc24 := NB573_594.out
     obtain ⟨hcz25_0, hcz25_1, hfz25_0, hfz25_1⟩ := c2_ BK594
     obtain ⟨Ao26, co26, eo26⟩ := Kd.R_slice HO_595000.out
     subst eo26
     obtain ⟨Ao27, co27, eo27⟩ := Kd.R_slice HO_595001.out
     subst eo27
     go_wp2_with (first | ((with_reducible refine gA_ (f := 65) rfl ?_); refine gL_ (some 32) Try.func65 #[.agg #[.slice Ao26 x595000_1.length co26, .slice Ao27 x595001_1.length co27]] rfl qa_ ?_; (with_reducible refine (Z44.calls k1 _ _ x595000_1 _ _ x595001_1 t598 t601 _ (cr_ HO_595000) ((Kd.R_reads' HO_595000.out).2.1) (cr_ HO_595001) ((Kd.R_reads' HO_595001.out).2.1) A23.out).mono ?_); rintro e w28 ⟨v599, v602, rfl, ho0, ho1, hb⟩; refine ⟨_, rfl, ?_⟩; have HO600 := A_ (rE_ (Kd.R_new' (Kd.R_new' ho0 (Kd.R_lt (rr_ HO_595000))) (Kd.R_lt (rr_ HO_595001))) (bF_ hB_)); have HO603 := A_ (rE_ (Kd.R_new' (Kd.R_new' ho1 (Kd.R_lt (rr_ HO_595000))) (Kd.R_lt (rr_ HO_595001))) (bF_ hB_)); replace HO_595000 := A_ (Kd.R_mono (Kd.R_told (Kd.R_told (Kd.R_old (rr_ HO_595000) hb) (Kd.R_base ho0)) (Kd.R_base ho1)) (fun _ h_ => h_.1)); replace HO_595001 := A_ (Kd.R_mono (Kd.R_told (Kd.R_told (Kd.R_old (rr_ HO_595001) hb) (Kd.R_base ho0)) (Kd.R_base ho1)) (fun _ h_ => h_.1)); replace BK573 := bb_ BK573 hb; replace BK594 := bb_ BK594 hb; replace HB := b1_ hb; clear hb ho0 ho1; obtain ⟨Ao29, co29, eo29⟩ := Kd.R_slice HO600.out; subst eo29; obtain ⟨hcz30_0, hcz30_1, hfz30_0, hfz30_1⟩ := c2_ BK594; obtain ⟨Ao31, co31, eo31⟩ := Kd.R_slice HO603.out; subst eo31))
     go_roundg k1
     case measure => have := HK1.out; omega
     case rel => exact ⟨(wrap64 (x6_1 - 1)), (t598), (t601), (.slice Ao29 t598.length co29), (.slice Ao31 t601.length co31), qc_, H', ⟨by have := HK1.out; omega⟩, ⟨(rw_ (Kd.R_mono (fa_ HO600 BK594) (fun _ hk => hk.1.1)))⟩, ⟨(rw_ (Kd.R_mono (fa_ HO603 BK594) (fun _ hk => hk.1.1)))⟩, ⟨by (with_reducible repeat (first | refine kA_ ?_ _ | refine kB_ ?_ | refine kC_ ?_ _)); refine blk_far ?_ NB573_594.out _; (with_reducible repeat (first | refine kA_ ?_ _ | refine kB_ ?_ | refine kC_ ?_ _)); refine blk_far ?_ NB573_594.out _; (with_reducible repeat (first | refine kA_ ?_ _ | refine kB_ ?_ | refine kC_ ?_ _)); exact BK573.out⟩, ⟨qp_⟩, ⟨hB_⟩⟩
    ·rw [if_neg c22] at H
     have c22b0 : decide (0 < x6_1) = false := oD_ c22
     clear c22
     simp only [Option.some.injEq, Prod.mk.injEq] at H
     obtain ⟨rfl, rfl⟩ := H
     have hnb32 := NB594_573.out
     have hnc32 := NB573_594.out
     obtain ⟨hcz33_0, hcz33_1, hfz33_0, hfz33_1⟩ := c2_ BK594
     obtain ⟨Ao34, co34, eo34⟩ := Kd.R_slice HO_595000.out
     subst eo34
     obtain ⟨hcz35_0, hcz35_1, hfz35_0, hfz35_1⟩ := c2_ BK573
     obtain ⟨Ao36, co36, eo36⟩ := Kd.R_slice HO_595001.out
     subst eo36
     go_wp2
     refine bodyPost_ret (results_cell_row rfl _ _ gb573 33 #[.slice Ao34 x595000_1.length co34, .slice Ao36 x595001_1.length co36] (0, 0) _ rfl qp_ Try.underlying33 rfl (by kernel_rfl)) rfl ?_
     exact ⟨_, _, qb_, (rw_ (fa_ HO_595000 BK573)), (rw_ (fa_ HO_595001 BK573)), hB_⟩
 ·rw [if_neg c4] at H
  have c4b0 : (t578 == 0) = false := beq_eq_false_iff_ne.mpr c4
  have c4b1 : (t578 != 0) = true := bne_iff_ne.mpr c4
  by_cases c37 : t578 = 1
  ·rw [if_pos c37] at H
   have c37b0 : (t578 == 1) = true := beq_iff_eq.mpr c37
   have c37b1 : (t578 != 1) = false := bne_eq_false_iff_eq.mpr c37
   clear c37
   obtain ⟨⟨t604, t605, t606⟩, A38, H⟩ := bi_ H
   try dsimp only at H
   obtain ⟨⟨t607, t608, t609⟩, A39, H⟩ := bi_ H
   try dsimp only at H
   obtain ⟨⟨t610, t613, t616⟩, A40, H⟩ := bi_ H
   try dsimp only at H
   simp only [Option.some.injEq, Prod.mk.injEq] at H
   obtain ⟨rfl, rfl⟩ := H
   go_enter Try.func20, Try.ntmps20
   go_wp2_with (first | ((with_reducible refine gB_ (N := 2) rfl ?_); refine bx_ 2 #[.slice none 0 0, .slice none 0 0] 33 ?_; intro gb573 hg w41 hbox hb; have BK573 := A_ hbox; have GW573 := gw_ w hg; have GE573 := GW573; replace HB := b1_ hb; clear hb hbox hg) | ((with_reducible refine gA_ (f := 62) rfl ?_); refine gL_ (some 10) Try.func62 #[.slice A0 l0.length c0] rfl qa_ ?_; (with_reducible refine (Z61.calls k _ _ l0 t574 t575 t576 w _ ?side1 ?side2 ?side3 A2.out).mono ?_); (case side1 => repeat (first | (with_reducible first | exact HB.out | apply bA_ | apply bB_ | apply bC_ | refine bD_ ?_ GE573.out) | exact HB.out)); (case side2 => exact HR0.out); (case side3 => exact HC0.out); rintro e w42 ⟨g577, rfl, hi, hb, hb2⟩; refine ⟨_, rfl, ?_⟩; replace HB := A_ hb; have HI577 := A_ hi; have NB577_573 := A_ (IsS102.ne_blk hi (kE_ (kk_ BK573) hb2) (by decide)); have NB573_577 := A_ (Ne.symm (IsS102.ne_blk hi (kE_ (kk_ BK573) hb2) (by decide))); replace BK573 := bb_ BK573 hb2; clear hb hb2 hi) | ((with_reducible refine gA_ (f := 63) rfl ?_); refine gL_ (some 12) Try.func63 #[.pointer (some ⟨g577, 0, none⟩), .int .i64 4] rfl qa_ ?_; (with_reducible refine (Z42.calls g577 t574 t575 t576 4 t578 t579 t580 w _ ?side1 ?side2 A3.out).mono ?_); (case side1 => repeat (first | (with_reducible first | exact HI577.out | apply IsS102.alloc | apply IsS102.drewN | apply IsS102.drew | apply IsS102.set_1 | apply IsS102.set_2 | refine IsS102.far ?_ NB577_573.out _) | exact HI577.out)); (case side2 => repeat (first | (with_reducible first | exact HB.out | apply bA_ | apply bB_ | apply bC_ | refine bD_ ?_ (IsS102.ge HI577.out) | refine bD_ ?_ GE573.out) | exact HB.out)); rintro e w43 ⟨rfl, hi, hb, hk⟩; refine ⟨_, rfl, ?_⟩; replace BK573 := A_ (KeepBut.blk hk (kk_ BK573) NB573_577.out (by simp)); replace HB := A_ hb; replace HI577 := A_ hi; clear hb hk hi) | ((with_reducible refine gA_ (f := 63) rfl ?_); refine gL_ (some 38) Try.func63 #[.pointer (some ⟨g577, 0, none⟩), .int .i64 4] rfl qa_ ?_; (with_reducible refine (Z42.calls g577 t574 t579 t580 4 t604 t605 t606 w _ ?side1 ?side2 A38.out).mono ?_); (case side1 => repeat (first | (with_reducible first | exact HI577.out | apply IsS102.alloc | apply IsS102.drewN | apply IsS102.drew | apply IsS102.set_1 | apply IsS102.set_2 | refine IsS102.far ?_ NB577_573.out _) | exact HI577.out)); (case side2 => repeat (first | (with_reducible first | exact HB.out | apply bA_ | apply bB_ | apply bC_ | refine bD_ ?_ (IsS102.ge HI577.out) | refine bD_ ?_ GE573.out) | exact HB.out)); rintro e w44 ⟨rfl, hi, hb, hk⟩; refine ⟨_, rfl, ?_⟩; replace BK573 := A_ (KeepBut.blk hk (kk_ BK573) NB573_577.out (by simp)); replace HB := A_ hb; replace HI577 := A_ hi; clear hb hk hi) | ((with_reducible refine gA_ (f := 63) rfl ?_); refine gL_ (some 41) Try.func63 #[.pointer (some ⟨g577, 0, none⟩), .int .i64 4] rfl qa_ ?_; (with_reducible refine (Z42.calls g577 t574 t605 t606 4 t607 t608 t609 w _ ?side1 ?side2 A39.out).mono ?_); (case side1 => repeat (first | (with_reducible first | exact HI577.out | apply IsS102.alloc | apply IsS102.drewN | apply IsS102.drew | apply IsS102.set_1 | apply IsS102.set_2 | refine IsS102.far ?_ NB577_573.out _) | exact HI577.out)); (case side2 => repeat (first | (with_reducible first | exact HB.out | apply bA_ | apply bB_ | apply bC_ | refine bD_ ?_ (IsS102.ge HI577.out) | refine bD_ ?_ GE573.out) | exact HB.out)); rintro e w45 ⟨rfl, hi, hb, hk⟩; refine ⟨_, rfl, ?_⟩; replace BK573 := A_ (KeepBut.blk hk (kk_ BK573) NB573_577.out (by simp)); replace HB := A_ hb; replace HI577 := A_ hi; clear hb hk hi) | ((with_reducible refine gA_ (f := 66) rfl ?_); refine gL_ (some 43) Try.func66 #[.int .i64 (wrap64 (1 + t604)), .int .i64 (wrap64 (1 + t607))] rfl qa_ ?_; (with_reducible refine (Z65.calls k (wrap64 (1 + t604)) (wrap64 (1 + t607)) t610 t613 t616 _ A40.out).mono ?_); rintro e w46 ⟨v611, v614, rfl, ho0, ho1, hb⟩; refine ⟨_, rfl, ?_⟩; have HO612 := A_ (rE_ ho0 (bF_ hBI_)); have HO615 := A_ (rE_ ho1 (bF_ hBI_)); replace BK573 := bb_ BK573 hb; replace HB := b2_ hb; replace HI577 := A_ (IsS102.below hI_IsS102_HI577 hb); clear hb ho0 ho1) | ((with_reducible refine gB_ (N := 7) rfl ?_); refine bx_ 7 #[.slice none 0 0, .slice none 0 0] 33 ?_; intro gb617 hg w47 hbox hb; replace HO612 := rb_ HO612 hb; replace HO615 := rb_ HO615 hb; have BK617 := A_ hbox; have GW617 := A_ ((gx_ hg (bF_ hBI_) : w.heap.size ≤ gb617)); have GE617 := A_ ((gx_ hg (bF_ hBI_) : w.heap.size ≤ gb617)); replace HB := b2_ hb; have NB573_617 := gN_ BK573 hg; have NB617_573 := gP_ BK573 hg; replace BK573 := bb_ BK573 hb; have NB577_617 := A_ ((gn_ hg (IsS102.lt (show IsS102 w _ g577 t574 t608 t609 from hI_IsS102_HI577)) : g577 ≠ gb617)); have NB617_577 := A_ ((gp_ hg (IsS102.lt (show IsS102 w _ g577 t574 t608 t609 from hI_IsS102_HI577)) : gb617 ≠ g577)); replace HI577 := A_ (IsS102.below hI_IsS102_HI577 hb); clear hb hbox hg; obtain ⟨Ao48, co48, eo48⟩ := Kd.R_slice HO612.out; subst eo48; have hnb49 := NB617_573.out; have hnc49 := NB573_617.out; have hnb50 := NB617_577.out; have hnc50 := NB577_617.out; obtain ⟨hcz51_0, hcz51_1, hfz51_0, hfz51_1⟩ := c2_ BK617; obtain ⟨Ao52, co52, eo52⟩ := Kd.R_slice HO615.out; subst eo52; have hnb53 := NB573_577.out; have hnc53 := NB577_573.out; obtain ⟨hcz54_0, hcz54_1, hfz54_0, hfz54_1⟩ := c2_ BK573))
   refine bodyPost_ret (results_cell_row rfl _ _ gb573 33 #[.slice Ao48 t610.length co48, .slice Ao52 t613.length co52] (0, 0) _ rfl (by (with_reducible repeat (first | refine kA_ ?_ _ | refine kB_ ?_ | refine kC_ ?_ _)); refine blk_put (cs := #[.slice Ao48 t610.length co48, .slice none 0 0]) ?_ 1 _ rfl; (with_reducible repeat (first | refine kA_ ?_ _ | refine kB_ ?_ | refine kC_ ?_ _)); refine blk_put (cs := #[.slice none 0 0, .slice none 0 0]) ?_ 0 _ rfl; (with_reducible repeat (first | refine kA_ ?_ _ | refine kB_ ?_ | refine kC_ ?_ _)); refine blk_far ?_ NB573_617.out _; (with_reducible repeat (first | refine kA_ ?_ _ | refine kB_ ?_ | refine kC_ ?_ _)); refine blk_far ?_ NB573_617.out _; (with_reducible repeat (first | refine kA_ ?_ _ | refine kB_ ?_ | refine kC_ ?_ _)); exact BK573.out) Try.underlying33 rfl (by kernel_rfl)) rfl ?_
   exact ⟨_, _, qb_, (rw_ (Kd.R_mono (Kd.R_far (p := ⟨gb573, 1, none⟩) (Kd.R_far (p := ⟨gb573, 0, none⟩) (Kd.R_far (p := ⟨gb617, 1, none⟩) (Kd.R_far (p := ⟨gb617, 0, none⟩) (Kd.R_types (Kd.R_types HO612.out BK617.out (by decide)) BK573.out (by decide)) (fun _ hk => hk.1.2) (.slice Ao48 t610.length co48)) (fun _ hk => hk.1.2) (.slice Ao52 t613.length co52)) (fun _ hk => hk.2) (.slice Ao48 t610.length co48)) (fun _ hk => hk.2) (.slice Ao52 t613.length co52)) (fun _ hk => hk.1.1))), (rw_ (Kd.R_mono (Kd.R_far (p := ⟨gb573, 1, none⟩) (Kd.R_far (p := ⟨gb573, 0, none⟩) (Kd.R_far (p := ⟨gb617, 1, none⟩) (Kd.R_far (p := ⟨gb617, 0, none⟩) (Kd.R_types (Kd.R_types HO615.out BK617.out (by decide)) BK573.out (by decide)) (fun _ hk => hk.1.2) (.slice Ao48 t610.length co48)) (fun _ hk => hk.1.2) (.slice Ao52 t613.length co52)) (fun _ hk => hk.2) (.slice Ao48 t610.length co48)) (fun _ hk => hk.2) (.slice Ao52 t613.length co52)) (fun _ hk => hk.1.1))), hBI_⟩
  ·rw [if_neg c37] at H
   have c37b0 : (t578 == 1) = false := beq_eq_false_iff_ne.mpr c37
   have c37b1 : (t578 != 1) = true := bne_iff_ne.mpr c37
   obtain ⟨⟨t618, t621, t624, t625⟩, A55, H⟩ := bi_ H
   try dsimp only at H
   simp only [Option.some.injEq, Prod.mk.injEq] at H
   obtain ⟨rfl, rfl⟩ := H
   go_enter Try.func20, Try.ntmps20
   go_wp2_with (first | ((with_reducible refine gB_ (N := 2) rfl ?_); refine bx_ 2 #[.slice none 0 0, .slice none 0 0] 33 ?_; intro gb573 hg w56 hbox hb; have BK573 := A_ hbox; have GW573 := gw_ w hg; have GE573 := GW573; replace HB := b1_ hb; clear hb hbox hg) | ((with_reducible refine gA_ (f := 62) rfl ?_); refine gL_ (some 10) Try.func62 #[.slice A0 l0.length c0] rfl qa_ ?_; (with_reducible refine (Z61.calls k _ _ l0 t574 t575 t576 w _ ?side1 ?side2 ?side3 A2.out).mono ?_); (case side1 => repeat (first | (with_reducible first | exact HB.out | apply bA_ | apply bB_ | apply bC_ | refine bD_ ?_ GE573.out) | exact HB.out)); (case side2 => exact HR0.out); (case side3 => exact HC0.out); rintro e w57 ⟨g577, rfl, hi, hb, hb2⟩; refine ⟨_, rfl, ?_⟩; replace HB := A_ hb; have HI577 := A_ hi; have NB577_573 := A_ (IsS102.ne_blk hi (kE_ (kk_ BK573) hb2) (by decide)); have NB573_577 := A_ (Ne.symm (IsS102.ne_blk hi (kE_ (kk_ BK573) hb2) (by decide))); replace BK573 := bb_ BK573 hb2; clear hb hb2 hi) | ((with_reducible refine gA_ (f := 63) rfl ?_); refine gL_ (some 12) Try.func63 #[.pointer (some ⟨g577, 0, none⟩), .int .i64 4] rfl qa_ ?_; (with_reducible refine (Z42.calls g577 t574 t575 t576 4 t578 t579 t580 w _ ?side1 ?side2 A3.out).mono ?_); (case side1 => repeat (first | (with_reducible first | exact HI577.out | apply IsS102.alloc | apply IsS102.drewN | apply IsS102.drew | apply IsS102.set_1 | apply IsS102.set_2 | refine IsS102.far ?_ NB577_573.out _) | exact HI577.out)); (case side2 => repeat (first | (with_reducible first | exact HB.out | apply bA_ | apply bB_ | apply bC_ | refine bD_ ?_ (IsS102.ge HI577.out) | refine bD_ ?_ GE573.out) | exact HB.out)); rintro e w58 ⟨rfl, hi, hb, hk⟩; refine ⟨_, rfl, ?_⟩; replace BK573 := A_ (KeepBut.blk hk (kk_ BK573) NB573_577.out (by simp)); replace HB := A_ hb; replace HI577 := A_ hi; clear hb hk hi) | ((with_reducible refine gA_ (f := 67) rfl ?_); refine gL_ (some 48) Try.func67 #[.pointer (some ⟨g577, 0, none⟩), .int .i64 5] rfl qa_ ?_; (with_reducible refine (Z53.calls k g577 t574 t579 t580 5 t618 t621 t624 t625 w _ ?side1 ?side2 A55.out).mono ?_); (case side1 => repeat (first | (with_reducible first | exact HI577.out | apply IsS102.alloc | apply IsS102.drewN | apply IsS102.drew | apply IsS102.set_1 | apply IsS102.set_2 | refine IsS102.far ?_ NB577_573.out _) | exact HI577.out)); (case side2 => repeat (first | (with_reducible first | exact HB.out | apply bA_ | apply bB_ | apply bC_ | refine bD_ ?_ (IsS102.ge HI577.out) | refine bD_ ?_ GE573.out) | exact HB.out)); rintro e w59 ⟨v619, v622, rfl, ho0, ho1, hi, hb, hk⟩; refine ⟨_, rfl, ?_⟩; replace BK573 := A_ (KeepBut.blk hk (kk_ BK573) NB573_577.out (by simp)); have HO620 := A_ (rE_ ho0 (bF_ hBI_)); have HO623 := A_ (rE_ ho1 (bF_ hBI_)); replace HB := A_ hb; replace HI577 := A_ hi; clear hb hk hi ho0 ho1; obtain ⟨Ao60, co60, eo60⟩ := Kd.R_slice HO620.out; subst eo60; have hnb61 := NB573_577.out; have hnc61 := NB577_573.out; obtain ⟨hcz62_0, hcz62_1, hfz62_0, hfz62_1⟩ := c2_ BK573; obtain ⟨Ao63, co63, eo63⟩ := Kd.R_slice HO623.out; subst eo63))
   refine bodyPost_ret (results_cell_row rfl _ _ gb573 33 #[.slice Ao60 t618.length co60, .slice Ao63 t621.length co63] (0, 0) _ rfl qp_ Try.underlying33 rfl (by kernel_rfl)) rfl ?_
   exact ⟨_, _, qb_, (rw_ (fa_ HO620 BK573)), (rw_ (fa_ HO623 BK573)), hBI_⟩
def Z2.f (s : ByteArray) (c : Int) : Option Int := some (Lib.indexByte s.data.toList c.toNat.toUInt8)
set_option maxHeartbeats 8000000 in
set_option maxRecDepth 100000 in
theorem Z2.calls (a0 : ByteArray) (a1 : Int) (r : Int) (w : World) (h : Z2.f a0 a1 = some r) :
  Calls Try.prog 151 #[.string a0, .int .u8 a1] w fun e w' => e = .returned (.int .i64 r) ∧ Below w.heap.size w w' := by
 unfold Z2.f at h
 obtain rfl := Option.some.inj h
 clear h
 go_enter Try.func151, Try.ntmps151
 go_wp2
 rw [run_callFunc_extern Try.func183 (by kernel_rfl) (by kernel_rfl) (by kernel_rfl) (e := Extern.BytealgIndexByte.indexByte) (by kernel_rfl), Lib.run_indexByteString]
 simp only [Result.andThen]
 rw [Oper.upon_value]
 go_wp2
 go_ret
 exact ⟨rfl, by repeat (first | (with_reducible first | exact Below.refl _ _ | apply bA_ | apply bB_ | apply bC_) | exact Below.refl _ _)⟩
def Z15.f (a0 : ByteArray) (a1 : Int) : Option (Int) := (Z2.f a0 a1).bind fun t626 => (some t626)
set_option maxHeartbeats 8000000 in
set_option maxRecDepth 100000 in
theorem Z15.calls (a0 : ByteArray) (a1 : Int) (r : Int) (w : World) (h : Z15.f a0 a1 = some r) :
  Calls Try.prog 113 #[.string a0, .int .u8 a1] w fun e w' => e = .returned (.int .i64 r) ∧ Below w.heap.size w w' := by
 have HB := A_ (Below.refl w.heap.size w)
 have H := h
 unfold Z15.f at H
 clear h
 obtain ⟨t626, A3, H⟩ := bi_ H
 obtain rfl := Option.some.inj H
 go_enter Try.func113, Try.ntmps113
 go_wp2_with (first | ((with_reducible refine gA_ (f := 151) rfl ?_); refine gL_ (some 7) Try.func151 #[.string a0, .int .u8 a1] rfl qa_ ?_; (with_reducible refine (Z2.calls a0 a1 t626 _ A3.out).mono ?_); rintro e w4 ⟨rfl, hb⟩; refine ⟨_, rfl, ?_⟩; replace HB := b1_ hb; clear hb))
 go_ret
 exact ⟨qb_, hB_⟩
def Z57.l0 : Nat → ByteArray → Int → Option (Bool)
 | 0, _, _ => none
 | k + 1, x0, x3 => if x3 < (x0.size : Int) then (if 0 ≤ x3 then ((Z15.f (⟨#[84, 116, 83, 115]⟩ : ByteArray) (bt x0 x3)).bind fun t627 => (if t627 < 0 then (some false) else (Z57.l0 k x0 (wrap64 (x3 + 1))))) else (none)) else (some (decide ((x0.size : Int) ≤ 40)))
def Z57.f (k : Nat) (a0 : ByteArray) : Option (Bool) := Z57.l0 k a0 0
theorem Z57.mono_l : ∀ k, (∀ y0 y1, LeO (Z57.l0 k y0 y1) (Z57.l0 (k + 1) y0 y1))
 | 0 => fun _ _ r h => by simp [Z57.l0] at h
 | k + 1 => by
  have ih0 := Z57.mono_l k
  ·intro y0 y1
   unfold Z57.l0
   repeat' first|exact ih0 _ _|exact lo_|refine LeO.ite ?_ ?_|refine LeO.bind ?_ (fun _ => ?_)
theorem Z57.mono : ∀ a0 k, LeO (Z57.f k a0) (Z57.f (k + 1) a0) := by
 intro a0 k
 have ih0 := Z57.mono_l k
 unfold Z57.f
 repeat' first|exact ih0 _ _|exact lo_|refine LeO.ite ?_ ?_|refine LeO.bind ?_ (fun _ => ?_)
set_option maxHeartbeats 8000000 in
set_option maxRecDepth 100000 in
theorem Z57.calls (k : Nat) (a0 : ByteArray) (r : Bool) (w : World) (h : Z57.f k a0 = some r) :
  Calls Try.prog 68 #[.string a0] w fun e w' => e = .returned (.bool r) ∧ Below w.heap.size w w' := by
 have HB := A_ (Below.refl w.heap.size w)
 have H := h
 unfold Z57.f at H
 clear h
 have H' := A_ H
 clear H
 go_enter Try.func68, Try.ntmps68
 go_wp2
 go_loopg [3] k (fun kq v3 w' => ∃ (x3_1 : Int), v3 = .int .i64 x3_1 ∧ Aside0 (Z57.l0 kq a0 x3_1 = some r) ∧ Aside0 (kq ≤ k) ∧ Aside0 (Below w.heap.size w w'))
 case atStart => exact ⟨(0), qc_, H', ⟨nA_ _⟩, ⟨hB_⟩⟩
 case round =>
  clear H'
  obtain ⟨x3_1, rfl, HA, HK1, HB⟩ := hrel
  cases gk with
  | zero => exact absurd HA.out (by simp [Z57.l0])
  | succ k1 =>
   have H := HA.out
   clear HA
   simp only [Z57.l0] at H
   by_cases c2 : x3_1 < (a0.size : Int)
   ·rw [if_pos c2] at H
    have c2b0 := oC_ c2
    clear c2
    have c3 := cp_ H
    replace H := ca_ H
    have c3b0 := oC_ c3
    clear c3
    obtain ⟨t627, A5, H⟩ := bi_ H
    by_cases c6 : t627 < 0
    ·rw [if_pos c6] at H
     have c6b0 := oC_ c6
     clear c6
     obtain rfl := Option.some.inj H
     have p4 : 0 ≤ (x3_1 : Int) := oB_ qe_
     have q4 : x3_1 < (a0.size : Int) := oB_ qe_
     have hx4 := bt_at a0 x3_1
     replace p4 := eq_true p4
     replace q4 := eq_true q4
     go_wp2_with (first | ((with_reducible refine gA_ (f := 113) rfl ?_); refine gL_ (some 13) Try.func113 #[.string (⟨#[84, 116, 83, 115]⟩ : ByteArray), .int .u8 (bt a0 x3_1)] rfl qa_ ?_; (with_reducible refine (Z15.calls (⟨#[84, 116, 83, 115]⟩ : ByteArray) (bt a0 x3_1) t627 _ A5.out).mono ?_); rintro e w7 ⟨rfl, hb⟩; refine ⟨_, rfl, ?_⟩; replace HB := b1_ hb; clear hb))
     go_ret
     exact ⟨qb_, hB_⟩
    ·rw [if_neg c6] at H
     have c6b0 := oD_ c6
     clear c6
     have H' := A_ H
     clear H
     have p4 : 0 ≤ (x3_1 : Int) := oB_ qe_
     have q4 : x3_1 < (a0.size : Int) := oB_ qe_
     have hx4 := bt_at a0 x3_1
     replace p4 := eq_true p4
     replace q4 := eq_true q4
     go_wp2_with (first | ((with_reducible refine gA_ (f := 113) rfl ?_); refine gL_ (some 13) Try.func113 #[.string (⟨#[84, 116, 83, 115]⟩ : ByteArray), .int .u8 (bt a0 x3_1)] rfl qa_ ?_; (with_reducible refine (Z15.calls (⟨#[84, 116, 83, 115]⟩ : ByteArray) (bt a0 x3_1) t627 _ A5.out).mono ?_); rintro e w8 ⟨rfl, hb⟩; refine ⟨_, rfl, ?_⟩; replace HB := b1_ hb; clear hb))
     go_roundg k1
     case measure => have := HK1.out; omega
     case rel => exact ⟨(wrap64 (x3_1 + 1)), qc_, H', ⟨by have := HK1.out; omega⟩, ⟨hB_⟩⟩
   ·rw [if_neg c2] at H
    have c2b0 := oD_ c2
    clear c2
    obtain rfl := Option.some.inj H
    go_wp2
    go_ret
    exact ⟨qb_, hB_⟩
def Z40.f (l0 : List Int) : Option (List Int) := (some (([] : List Int) : List Int)).bind fun y230 => (if y230.length + l0.length < 17592186044416 then (some (y230 ++ l0)) else (none))
set_option maxHeartbeats 8000000 in
set_option maxRecDepth 100000 in
theorem Z40.calls (A0 : Option Addr) (c0 : Nat) (l0 : List Int) (r : List Int) (w : World) (hr0 : Kd.C (Kd.int .i64) w A0 l0.length l0) (hc0 : l0.length ≤ c0) (h : Z40.f l0 = some r) :
  Calls Try.prog 100 #[.slice A0 l0.length c0] w fun e w' => ∃ v0_ : Value, e = .returned (v0_) ∧ Kd.R (Kd.int .i64) 3 w' w.heap.size (fun _ => True) v0_ r ∧ Below w.heap.size w w' := by
 have HR0 := A_ hr0
 have HC0 := A_ hc0
 clear hr0 hc0
 have HB := A_ (Below.refl w.heap.size w)
 have H := h
 unfold Z40.f at H
 clear h
 obtain ⟨y230, hy230⟩ : ∃ y_ : List Int, y_ = (([] : List Int)) := ⟨_, rfl⟩
 replace H : (if y230.length + l0.length < 17592186044416 then (some (y230 ++ l0)) else (none)) = some r := by first | (rw [hy230]; exact H) | exact H
 have Ny230 := A_ hy230
 clear hy230
 have c2 := cp_ H
 replace H := ca_ H
 have LMc2 := A_ c2
 clear c2
 obtain ⟨y233, hy233⟩ : ∃ y_ : List Int, y_ = (y230 ++ l0) := ⟨_, rfl⟩
 replace H : (some y233) = some r := by first | (rw [hy233]; exact H) | exact H
 have Ny233 := A_ hy233
 clear hy233
 obtain rfl := Option.some.inj H
 go_enter Try.func100, Try.ntmps100
 go_wp2_with (first | ((with_reducible refine gB_ (N := 3) rfl ?_); refine Kd.R_lit (Kd.int .i64) _ 3 ?hg (N := 3) ?hd (xs := ([] : List Int)) (inner := []) (ok := fun _ => True) (okp := fun _ => True) ?hr ?hp (fun _ hk => hk) trivial (Below.refl _ _) (nA_ _) (by simp) ?_; (case hd => rfl); (case hg => rfl); (case hr => first | (go_simp; done) | (go_simp; rfl)); (case hp => exact (Reps.none _ _)); intro v231 w3 ho4 hb hg_ hnew_; clear hg_ hnew_; (first | rw [← Ny230.out] at ho4 | (simp only [Int.reduceToNat] at ho4; rw [← Ny230.out] at ho4)); have HO232 := rl_ w ho4; replace HB := b1_ hb; clear hb ho4) | ((with_reducible refine gate_builtin (b := .append) (xs := #[.tmp 3, .tmp 4]) rfl ?_); at_builtin; refine Kd.R_append_rows (Kd.int .i64) (w0 := w) w.heap.size rfl (.tmp 3) (.tmp 4) 23 3 (.int .i64 0) 8 rfl Try.underlying23 info3 rfl (by decide) (by omega) v231 y230 l0 _ _ _ (fun _ => True) (fun _ => False) rfl rfl ?aO ?aR (fun _ _ h => h) (fun _ h => h.elim) ?aF ?aB ?aS ?aL ?_; (case aR => exact cb_ HR0); (case aB => exact hB_); (case aF => exact (fun _ _ => trivial)); (case aO => exact (rr_ HO232)); (case aS => exact (bF_ hB_)); (case aL => have := LMc2.out; omega); intro v234 w5 ho hb hg hat; rw [← Ny233.out] at ho; replace HB := A_ hb; have HO235 := A_ ho; clear HO232; clear ho hb hg hat))
 go_ret
 exact ⟨_, qb_, (rr_ HO235), hB_⟩
def Z20.f (l0_0 : List Int) (l0_1 : List Int) : Option (List Int × List Int) := (Z40.f l0_0).bind fun t630 => ((Z40.f l0_1).bind fun t633 => (some (t630, t633)))
def Z20.T1 : Bool × List (List Nat × List Nat) := (true, [([], []), ([0], [0]), ([1], [1]), ([], []), ([3], [3]), ([4, 2], [4]), ([2, 5], [2, 5]), ([6, 5, 0, 1, 2, 3, 4, 5, 6], [6])])
def Z20.B1 : List Nat := [0, 1, 3, 0, 8, 31, 63, 127]
theorem Z20.tab1 : rtab .any (opsOf Try.f69 1) = Z20.T1 := by kernel_rfl
theorem Z20.bits1 : waitsOk Z20.T1.2 Z20.B1 = true := by kernel_rfl
set_option maxHeartbeats 8000000 in
set_option maxRecDepth 100000 in
theorem Z20.calls (A0_0 : Option Addr) (c0_0 : Nat) (l0_0 : List Int) (A0_1 : Option Addr) (c0_1 : Nat) (l0_1 : List Int) (r1 : List Int) (r2 : List Int) (w : World) (hr0_0 : Kd.C (Kd.int .i64) w A0_0 l0_0.length l0_0) (hc0_0 : l0_0.length ≤ c0_0) (hr0_1 : Kd.C (Kd.int .i64) w A0_1 l0_1.length l0_1) (hc0_1 : l0_1.length ≤ c0_1) (h : Z20.f l0_0 l0_1 = some (r1, r2)) :
  Calls Try.prog 69 #[.agg #[.slice A0_0 l0_0.length c0_0, .slice A0_1 l0_1.length c0_1]] w fun e w' => ∃ v0_ v1_ : Value, e = .returned (.agg #[v0_, v1_]) ∧ Kd.R (Kd.int .i64) 3 w' w.heap.size (fun k_ => some k_ ≠ (v1_ : Value).ownBlock) v0_ r1 ∧ Kd.R (Kd.int .i64) 3 w' w.heap.size (fun k_ => some k_ ≠ (v0_ : Value).ownBlock) v1_ r2 ∧ Below w.heap.size w w' := by
 have hu33 := Try.underlying33
 have HR0_0 := A_ hr0_0
 have HC0_0 := A_ hc0_0
 clear hr0_0 hc0_0
 have HR0_1 := A_ hr0_1
 have HC0_1 := A_ hc0_1
 clear hr0_1 hc0_1
 have HB := A_ (Below.refl w.heap.size w)
 have H := h
 unfold Z20.f at H
 clear h
 obtain ⟨t630, A2, H⟩ := bi_ H
 obtain ⟨t633, A3, H⟩ := bi_ H
 simp only [Option.some.injEq, Prod.mk.injEq] at H
 obtain ⟨rfl, rfl⟩ := H
 go_enter Try.func69, Try.ntmps69
 try go_wp2_with (first | ((with_reducible refine gB_ (N := 1) rfl ?_); refine bx_ 1 #[.slice A0_0 l0_0.length c0_0, .slice A0_1 l0_1.length c0_1] 33 ?_; intro gb628 hg w4 hbox hb; have BK628 := A_ hbox; have GW628 := gw_ w hg; have GE628 := GW628; replace HB := b1_ hb; clear hb hbox hg) | ((with_reducible refine gB_ (N := 2) rfl ?_); refine bx_ 2 #[.slice none 0 0, .slice none 0 0] 33 ?_; intro gb629 hg w5 hbox hb; have BK629 := A_ hbox; have GW629 := gw_ w hg; have GE629 := GW629; replace HB := b1_ hb; have NB628_629 := gN_ BK628 hg; have NB629_628 := gP_ BK628 hg; replace BK628 := bb_ BK628 hb; clear hb hbox hg))
 replace BK628 := A_ (kB_ BK628.out)
 replace BK629 := A_ (kB_ BK629.out)
 replace HB := A_ (bC_ HB.out)
 refine start_ (n := 8) (S := fun w' => w'.cell? ⟨gb628, 0, none⟩ = some (.slice A0_0 l0_0.length c0_0) ∧ w'.cell? ⟨gb628, 1, none⟩ = some (.slice A0_1 l0_1.length c0_1)) (ds := []) (bl_ 8 0) (by kernel_rfl) rfl (by kernel_rfl) ⟨cz0_ BK628, cz1_ BK628⟩ (fun hHeld => ?_); refine with_tabW Z20.tab1 Z20.bits1 (fun HT_ HW_ => ?_)
 generalize w5.drew = w6 at BK628 BK629 HB hHeld ⊢
 refine pu_ 0 (some 3) (bl_ 8 1) HT_ ?_
 refine pu_ 3 (some 6) (bl_ 8 9) HT_ ?_
 refine ta_ 1 (some 4) (bl_ 8 11) HT_ HW_ hHeld ?_
 refine ta_ 4 (some 7) (bl_ 8 27) HT_ HW_ hHeld ?_
 refine on_ 2 (some 5) (bl_ 8 31) HT_ (fun K hK => ?_)
 refine gO_ Try.func100 #[.slice A0_0 l0_0.length c0_0] (by rfl) rfl rfl qa_ ?_
 with_reducible refine (Z40.calls _ _ l0_0 t630 _ (cb_ HR0_0) HC0_0.out A2.out).mono ?_
 rintro e w7 ⟨v631, rfl, ho0, hb⟩
 refine ⟨_, rfl, ?_⟩
 have HO632 := rl_ w ho0
 replace BK628 := bb_ BK628 hb
 replace BK629 := bb_ BK629 hb
 replace HB := b1_ hb
 clear hb ho0
 refine hK.out _ _ ⟨cz0_ BK628, cz1_ BK628⟩ (fun hHeld => ?_)
 clear hK K
 refine no_ (some 5) ?_
 refine on_ 5 (some 8) (bl_ 8 63) HT_ (fun K hK => ?_)
 refine gO_ Try.func100 #[.slice A0_1 l0_1.length c0_1] (by rfl) rfl rfl qa_ ?_
 with_reducible refine (Z40.calls _ _ l0_1 t633 _ (cb_ HR0_1) HC0_1.out A3.out).mono ?_
 rintro e w8 ⟨v634, rfl, ho0, hb⟩
 refine ⟨_, rfl, ?_⟩
 have HO635 := A_ (rE_ (Kd.R_new' ho0 (Kd.R_lt (rr_ HO632))) (bF_ hB_))
 replace HO632 := A_ (Kd.R_elder' (rr_ HO632) (Kd.R_base ho0) hb)
 replace BK628 := bb_ BK628 hb
 replace BK629 := bb_ BK629 hb
 replace HB := b1_ hb
 clear hb ho0
 obtain ⟨Ao9, co9, eo9⟩ := Kd.R_slice HO635.out
 (first | subst eo9 | (injection eo9 with f1_ f2_ f3_; have f4_ := f1_.symm; have f5_ := f3_.symm; clear f1_ f2_ f3_; subst f4_; subst f5_))
 obtain ⟨Ao10, co10, eo10⟩ := Kd.R_slice HO632.out
 (first | subst eo10 | (injection eo10 with f1_ f2_ f3_; have f4_ := f1_.symm; have f5_ := f3_.symm; clear f1_ f2_ f3_; subst f4_; subst f5_))
 refine hK.out _ _ ⟨cz0_ BK628, cz1_ BK628⟩ (fun hHeld => ?_)
 clear hK K
 refine no_ (some 8) ?_
 refine pu_ 6 (some 9) (bl_ 8 127) HT_ ?_
 refine on_ 7 (none) (bl_ 8 255) HT_ (fun K hK => ?_)
 have hs11 : w8.cell? ⟨gb629, 0, none⟩ = some (.slice none 0 0) := cz0_ BK629
 have hfs11 := kD_ BK629.out 0
 have hns11_0 := NB628_629.out
 have hms11_0 := NB629_628.out
 have hs12 : w8.cell? ⟨gb629, 1, none⟩ = some (.slice none 0 0) := cz1_ BK629
 have hfs12 := kD_ BK629.out 1
 have hns12_0 := NB628_629.out
 have hms12_0 := NB629_628.out
 refine skip_ (w1 := ?_) (by rfl) rfl ?_ ?_
 rotate_left
 ·go_simp
  rfl
 refine hK.out _ _ ⟨((cell_far (p := ⟨gb629, _, none⟩) NB628_629.out _).trans (((cell_far (p := ⟨gb629, _, none⟩) NB628_629.out _).trans (hHeld.1)))), ((cell_far (p := ⟨gb629, _, none⟩) NB628_629.out _).trans (((cell_far (p := ⟨gb629, _, none⟩) NB628_629.out _).trans (hHeld.2))))⟩ (fun hHeld => ?_)
 clear hK K
 refine done_ (done_of HT_.out (by kernel_rfl)) ?_
 try go_wp2
 refine bodyPost_ret (results_cell_row rfl _ _ gb629 33 #[.slice Ao10 t630.length co10, .slice Ao9 t633.length co9] (0, 0) _ rfl qp_ Try.underlying33 rfl (by kernel_rfl)) rfl ?_
 exact ⟨_, _, qb_, (rw_ (Kd.R_mono (fa_ HO632 BK629) (fun _ hk => hk.2))), (rw_ (Kd.R_mono (fa_ HO635 BK629) (fun _ hk => hk.2))), hB_⟩
def Z13.f (k : Nat) (l0_0 : List Int) (l0_1 : List Int) : Option (List Int × List Int × Bool) := (Z31.f k l0_0 l0_1).bind fun t638 => (if t638 = true then ((Z40.f l0_0).bind fun t639 => ((Z17.f k l0_0).bind fun t642 => ((Z39.f k t642 l0_1).bind fun t645 => (some (t639, t645, true))))) else (some (([] : List Int), ([] : List Int), false)))
theorem Z13.mono : ∀ a0 a1 k, LeO (Z13.f k a0 a1) (Z13.f (k + 1) a0 a1) := by
 intro a0 a1 k
 unfold Z13.f
 repeat' first|exact Z17.mono _ _|exact Z31.mono _ _ _|exact Z39.mono _ _ _|exact lo_|refine LeO.ite ?_ ?_|refine LeO.bind ?_ (fun _ => ?_)
def Z13.T3 : Bool × List (List Nat × List Nat) := (true, [([], []), ([0], [0]), ([1], [1]), ([], []), ([3], [3]), ([4, 2], [4]), ([], []), ([6], [6]), ([5, 7, 5], [5, 7]), ([2, 8], [2, 8]), ([9, 8, 0, 1, 2, 3, 4, 5, 6, 7, 8, 9], [9]), ([10, 0, 1, 2, 3, 4, 5, 6, 7, 8, 9, 10], [])])
def Z13.B3 : List Nat := [0, 1, 3, 0, 8, 31, 0, 64, 255, 511, 1023, 2047]
theorem Z13.tab3 : rtab .any (opsOf Try.f114 3) = Z13.T3 := by kernel_rfl
theorem Z13.bits3 : waitsOk Z13.T3.2 Z13.B3 = true := by kernel_rfl
set_option maxHeartbeats 8000000 in
set_option maxRecDepth 100000 in
theorem Z13.calls (k : Nat) (A0_0 : Option Addr) (c0_0 : Nat) (l0_0 : List Int) (A0_1 : Option Addr) (c0_1 : Nat) (l0_1 : List Int) (r1 : List Int) (r2 : List Int) (r3 : Bool) (w : World) (hr0_0 : Kd.C (Kd.int .i64) w A0_0 l0_0.length l0_0) (hc0_0 : l0_0.length ≤ c0_0) (hr0_1 : Kd.C (Kd.int .i64) w A0_1 l0_1.length l0_1) (hc0_1 : l0_1.length ≤ c0_1) (h : Z13.f k l0_0 l0_1 = some (r1, r2, r3)) :
  Calls Try.prog 114 #[.agg #[.slice A0_0 l0_0.length c0_0, .slice A0_1 l0_1.length c0_1]] w fun e w' => ∃ v0_ v1_ : Value, e = .returned (.tuple #[.agg #[v0_, v1_], .bool r3]) ∧ Kd.R (Kd.int .i64) 3 w' w.heap.size (fun k_ => some k_ ≠ (v1_ : Value).ownBlock) v0_ r1 ∧ Kd.R (Kd.int .i64) 3 w' w.heap.size (fun k_ => some k_ ≠ (v0_ : Value).ownBlock) v1_ r2 ∧ Below w.heap.size w w' := by
 have hu33 := Try.underlying33
 have HR0_0 := A_ hr0_0
 have HC0_0 := A_ hc0_0
 clear hr0_0 hc0_0
 have HR0_1 := A_ hr0_1
 have HC0_1 := A_ hc0_1
 clear hr0_1 hc0_1
 have HB := A_ (Below.refl w.heap.size w)
 have H := h
 unfold Z13.f at H
 clear h
 obtain ⟨t638, A2, H⟩ := bi_ H
 by_cases c3 : t638 = true
 ·subst c3
  rw [if_pos rfl] at H
  obtain ⟨t639, A4, H⟩ := bi_ H
  obtain ⟨t642, A5, H⟩ := bi_ H
  obtain ⟨t645, A6, H⟩ := bi_ H
  simp only [Option.some.injEq, Prod.mk.injEq] at H
  obtain ⟨rfl, rfl, rfl⟩ := H
  go_enter Try.func114, Try.ntmps114
  try go_wp2_with (first | ((with_reducible refine gB_ (N := 1) rfl ?_); refine bx_ 1 #[.slice A0_0 l0_0.length c0_0, .slice A0_1 l0_1.length c0_1] 33 ?_; intro gb636 hg w7 hbox hb; have BK636 := A_ hbox; have GW636 := gw_ w hg; have GE636 := GW636; replace HB := b1_ hb; clear hb hbox hg) | ((with_reducible refine gB_ (N := 2) rfl ?_); refine bx_ 2 #[.slice none 0 0, .slice none 0 0] 33 ?_; intro gb637 hg w8 hbox hb; have BK637 := A_ hbox; have GW637 := gw_ w hg; have GE637 := GW637; replace HB := b1_ hb; have NB636_637 := gN_ BK636 hg; have NB637_636 := gP_ BK636 hg; replace BK636 := bb_ BK636 hb; clear hb hbox hg; have hnb9 := NB636_637.out; have hnc9 := NB637_636.out; obtain ⟨hcz10_0, hcz10_1, hfz10_0, hfz10_1⟩ := c2_ BK636) | ((with_reducible refine gA_ (f := 19) rfl ?_); refine gL_ (some 5) Try.func19 #[.agg #[.slice A0_0 l0_0.length c0_0, .slice A0_1 l0_1.length c0_1]] rfl qa_ ?_; (with_reducible refine (Z31.calls k _ _ l0_0 _ _ l0_1 true _ (cb_ HR0_0) HC0_0.out (cb_ HR0_1) HC0_1.out A2.out).mono ?_); rintro e w11 ⟨rfl, hb⟩; refine ⟨_, rfl, ?_⟩; replace BK636 := bb_ BK636 hb; replace BK637 := bb_ BK637 hb; replace HB := b1_ hb; clear hb))
  replace BK636 := A_ (kB_ BK636.out)
  replace BK637 := A_ (kB_ BK637.out)
  replace HB := A_ (bC_ HB.out)
  refine start_ (n := 12) (S := fun w' => w'.cell? ⟨gb636, 0, none⟩ = some (.slice A0_0 l0_0.length c0_0) ∧ w'.cell? ⟨gb636, 1, none⟩ = some (.slice A0_1 l0_1.length c0_1)) (ds := []) (bl_ 12 0) (by kernel_rfl) rfl (by kernel_rfl) ⟨cz0_ BK636, cz1_ BK636⟩ (fun hHeld => ?_); refine with_tabW Z13.tab3 Z13.bits3 (fun HT_ HW_ => ?_)
  generalize w11.drew = w12 at BK636 BK637 HB hHeld ⊢
  refine pu_ 0 (some 8) (bl_ 12 1) HT_ ?_
  refine pu_ 3 (some 11) (bl_ 12 9) HT_ ?_
  refine pu_ 6 (some 14) (bl_ 12 73) HT_ ?_
  refine ta_ 1 (some 9) (bl_ 12 75) HT_ HW_ hHeld ?_
  refine ta_ 4 (some 12) (bl_ 12 91) HT_ HW_ hHeld ?_
  refine ta_ 7 (some 15) (bl_ 12 219) HT_ HW_ hHeld ?_
  refine on_ 2 (some 10) (bl_ 12 223) HT_ (fun K hK => ?_)
  refine gO_ Try.func100 #[.slice A0_0 l0_0.length c0_0] (by rfl) rfl rfl qa_ ?_
  with_reducible refine (Z40.calls _ _ l0_0 t639 _ (cb_ HR0_0) HC0_0.out A4.out).mono ?_
  rintro e w13 ⟨v640, rfl, ho0, hb⟩
  refine ⟨_, rfl, ?_⟩
  have HO641 := rl_ w ho0
  replace BK636 := bb_ BK636 hb
  replace BK637 := bb_ BK637 hb
  replace HB := b1_ hb
  clear hb ho0
  refine hK.out _ _ ⟨cz0_ BK636, cz1_ BK636⟩ (fun hHeld => ?_)
  clear hK K
  refine no_ (some 10) ?_
  refine on_ 5 (some 13) (bl_ 12 255) HT_ (fun K hK => ?_)
  refine gO_ Try.func122 #[.slice A0_0 l0_0.length c0_0] (by rfl) rfl rfl qa_ ?_
  with_reducible refine (Z17.calls k _ _ l0_0 t642 _ (cb_ HR0_0) HC0_0.out A5.out).mono ?_
  rintro e w14 ⟨v643, rfl, ho0, hb⟩
  refine ⟨_, rfl, ?_⟩
  have HO644 := A_ (rE_ (Kd.R_new' ho0 (Kd.R_lt (rr_ HO641))) (bF_ hB_))
  replace HO641 := A_ (Kd.R_elder' (rr_ HO641) (Kd.R_base ho0) hb)
  replace BK636 := bb_ BK636 hb
  replace BK637 := bb_ BK637 hb
  replace HB := b1_ hb
  clear hb ho0
  obtain ⟨Ao15, co15, eo15⟩ := Kd.R_slice HO644.out
  (first | subst eo15 | (injection eo15 with f1_ f2_ f3_; have f4_ := f1_.symm; have f5_ := f3_.symm; clear f1_ f2_ f3_; subst f4_; subst f5_))
  refine hK.out _ _ ⟨cz0_ BK636, cz1_ BK636⟩ (fun hHeld => ?_)
  clear hK K
  refine no_ (some 13) ?_
  refine on_ 8 (some 16) (bl_ 12 511) HT_ (fun K hK => ?_)
  refine gO_ Try.func152 #[.slice Ao15 t642.length co15, .slice A0_1 l0_1.length c0_1] (by rfl) rfl rfl qa_ ?_
  with_reducible refine (Z39.calls k _ _ t642 _ _ l0_1 t645 _ (cr_ HO644) ((Kd.R_reads' HO644.out).2.1) (cb_ HR0_1) HC0_1.out A6.out).mono ?_
  rintro e w16 ⟨v646, rfl, ho0, hb⟩
  refine ⟨_, rfl, ?_⟩
  have HO647 := A_ (rE_ (Kd.R_new' (Kd.R_new' ho0 (Kd.R_lt (rr_ HO641))) (Kd.R_lt (rr_ HO644))) (bF_ hB_))
  replace HO641 := A_ (Kd.R_elder' (rr_ HO641) (Kd.R_base ho0) hb)
  replace HO644 := A_ (Kd.R_elder' (rr_ HO644) (Kd.R_base ho0) hb)
  replace BK636 := bb_ BK636 hb
  replace BK637 := bb_ BK637 hb
  replace HB := b1_ hb
  clear hb ho0
  obtain ⟨Ao17, co17, eo17⟩ := Kd.R_slice HO647.out
  (first | subst eo17 | (injection eo17 with f1_ f2_ f3_; have f4_ := f1_.symm; have f5_ := f3_.symm; clear f1_ f2_ f3_; subst f4_; subst f5_))
  obtain ⟨Ao18, co18, eo18⟩ := Kd.R_slice HO641.out
  (first | subst eo18 | (injection eo18 with f1_ f2_ f3_; have f4_ := f1_.symm; have f5_ := f3_.symm; clear f1_ f2_ f3_; subst f4_; subst f5_))
  refine hK.out _ _ ⟨cz0_ BK636, cz1_ BK636⟩ (fun hHeld => ?_)
  clear hK K
  refine no_ (some 16) ?_
  refine pu_ 9 (some 17) (bl_ 12 1023) HT_ ?_
  refine on_ 10 (none) (bl_ 12 2047) HT_ (fun K hK => ?_)
  have hs19 : w16.cell? ⟨gb637, 0, none⟩ = some (.slice none 0 0) := cz0_ BK637
  have hfs19 := kD_ BK637.out 0
  have hns19_0 := NB636_637.out
  have hms19_0 := NB637_636.out
  have hs20 : w16.cell? ⟨gb637, 1, none⟩ = some (.slice none 0 0) := cz1_ BK637
  have hfs20 := kD_ BK637.out 1
  have hns20_0 := NB636_637.out
  have hms20_0 := NB637_636.out
  refine skip_ (w1 := ?_) (by rfl) rfl ?_ ?_
  rotate_left
  ·go_simp
   rfl
  refine hK.out _ _ ⟨((cell_far (p := ⟨gb637, _, none⟩) NB636_637.out _).trans (((cell_far (p := ⟨gb637, _, none⟩) NB636_637.out _).trans (hHeld.1)))), ((cell_far (p := ⟨gb637, _, none⟩) NB636_637.out _).trans (((cell_far (p := ⟨gb637, _, none⟩) NB636_637.out _).trans (hHeld.2))))⟩ (fun hHeld => ?_)
  clear hK K
  refine pu_ 11 (some 3) (bl_ 12 4095) HT_ ?_
  refine done_ (done_of HT_.out (by kernel_rfl)) ?_
  try go_wp2
  refine bodyPost_ret (results_ct rfl _ _ gb637 33 #[.slice Ao18 t639.length co18, .slice Ao17 t645.length co17] (0, 0) _ rfl qp_ Try.underlying33 rfl (by kernel_rfl)) rfl ?_
  exact ⟨_, _, qb_, (rw_ (Kd.R_mono (fa_ HO641 BK637) (fun _ hk => hk.2))), (rw_ (Kd.R_mono (fa_ HO647 BK637) (fun _ hk => hk.1.2))), hB_⟩
 ·replace c3 := Bool.eq_false_iff.mpr c3
  subst c3
  have H1 : (some (([] : List Int), ([] : List Int), false)) = some (r1, r2, r3) := by rw [if_neg (show ¬ (false = true) by decide)] at H; exact H
  clear H
  have H := H1
  clear H1
  simp only [Option.some.injEq, Prod.mk.injEq] at H
  obtain ⟨rfl, rfl, rfl⟩ := H
  go_enter Try.func114, Try.ntmps114
  go_wp2_with (first | ((with_reducible refine gB_ (N := 1) rfl ?_); refine bx_ 1 #[.slice A0_0 l0_0.length c0_0, .slice A0_1 l0_1.length c0_1] 33 ?_; intro gb636 hg w21 hbox hb; have BK636 := A_ hbox; have GW636 := gw_ w hg; have GE636 := GW636; replace HB := b1_ hb; clear hb hbox hg) | ((with_reducible refine gB_ (N := 2) rfl ?_); refine bx_ 2 #[.slice none 0 0, .slice none 0 0] 33 ?_; intro gb637 hg w22 hbox hb; have BK637 := A_ hbox; have GW637 := gw_ w hg; have GE637 := GW637; replace HB := b1_ hb; have NB636_637 := gN_ BK636 hg; have NB637_636 := gP_ BK636 hg; replace BK636 := bb_ BK636 hb; clear hb hbox hg; have hnb23 := NB636_637.out; have hnc23 := NB637_636.out; obtain ⟨hcz24_0, hcz24_1, hfz24_0, hfz24_1⟩ := c2_ BK636) | ((with_reducible refine gA_ (f := 19) rfl ?_); refine gL_ (some 5) Try.func19 #[.agg #[.slice A0_0 l0_0.length c0_0, .slice A0_1 l0_1.length c0_1]] rfl qa_ ?_; (with_reducible refine (Z31.calls k _ _ l0_0 _ _ l0_1 false _ (cb_ HR0_0) HC0_0.out (cb_ HR0_1) HC0_1.out A2.out).mono ?_); rintro e w25 ⟨rfl, hb⟩; refine ⟨_, rfl, ?_⟩; replace BK636 := bb_ BK636 hb; replace BK637 := bb_ BK637 hb; replace HB := b1_ hb; clear hb; obtain ⟨hcz26_0, hcz26_1, hfz26_0, hfz26_1⟩ := c2_ BK637))
  refine bodyPost_ret (results_ct rfl _ _ gb637 33 #[.slice none 0 0, .slice none 0 0] (0, 0) _ rfl qp_ Try.underlying33 rfl (by kernel_rfl)) rfl ?_
  exact ⟨_, _, qb_, by first | exact Kd.R_nil _ _ _ _ _ | exact Kd.N_nil _ _ _ _ _ | exact Kd.V_nil _ _ _ _ _ | exact Kd.Q_nil _ _ _ _ _ | exact Kd.S_nil _ _ _ _ _, by first | exact Kd.R_nil _ _ _ _ _ | exact Kd.N_nil _ _ _ _ _ | exact Kd.V_nil _ _ _ _ _ | exact Kd.Q_nil _ _ _ _ _ | exact Kd.S_nil _ _ _ _ _, hB_⟩
def Z6.f (k : Nat) (l0_0 : List Int) (l0_1 : List Int) : Option (List Int × List Int × Bool) := (Z31.f k l0_0 l0_1).bind fun t650 => (if t650 = true then ((Z40.f l0_0).bind fun t651 => ((Z39.f k l0_0 l0_1).bind fun t654 => (some (t651, t654, true)))) else (some (([] : List Int), ([] : List Int), false)))
theorem Z6.mono : ∀ a0 a1 k, LeO (Z6.f k a0 a1) (Z6.f (k + 1) a0 a1) := by
 intro a0 a1 k
 unfold Z6.f
 repeat' first|exact Z31.mono _ _ _|exact Z39.mono _ _ _|exact lo_|refine LeO.ite ?_ ?_|refine LeO.bind ?_ (fun _ => ?_)
def Z6.T3 : Bool × List (List Nat × List Nat) := (true, [([], []), ([0], [0]), ([1], [1]), ([], []), ([3], [3]), ([], []), ([5], [5]), ([4, 6, 2], [4, 6]), ([2, 7], [2, 7]), ([8, 7, 0, 1, 2, 3, 4, 5, 6, 7, 8], [8]), ([9, 0, 1, 2, 3, 4, 5, 6, 7, 8, 9], [])])
def Z6.B3 : List Nat := [0, 1, 3, 0, 8, 0, 32, 127, 255, 511, 1023]
theorem Z6.tab3 : rtab .any (opsOf Try.f115 3) = Z6.T3 := by kernel_rfl
theorem Z6.bits3 : waitsOk Z6.T3.2 Z6.B3 = true := by kernel_rfl
set_option maxHeartbeats 8000000 in
set_option maxRecDepth 100000 in
theorem Z6.calls (k : Nat) (A0_0 : Option Addr) (c0_0 : Nat) (l0_0 : List Int) (A0_1 : Option Addr) (c0_1 : Nat) (l0_1 : List Int) (r1 : List Int) (r2 : List Int) (r3 : Bool) (w : World) (hr0_0 : Kd.C (Kd.int .i64) w A0_0 l0_0.length l0_0) (hc0_0 : l0_0.length ≤ c0_0) (hr0_1 : Kd.C (Kd.int .i64) w A0_1 l0_1.length l0_1) (hc0_1 : l0_1.length ≤ c0_1) (h : Z6.f k l0_0 l0_1 = some (r1, r2, r3)) :
  Calls Try.prog 115 #[.agg #[.slice A0_0 l0_0.length c0_0, .slice A0_1 l0_1.length c0_1]] w fun e w' => ∃ v0_ v1_ : Value, e = .returned (.tuple #[.agg #[v0_, v1_], .bool r3]) ∧ Kd.R (Kd.int .i64) 3 w' w.heap.size (fun k_ => some k_ ≠ (v1_ : Value).ownBlock) v0_ r1 ∧ Kd.R (Kd.int .i64) 3 w' w.heap.size (fun k_ => some k_ ≠ (v0_ : Value).ownBlock) v1_ r2 ∧ Below w.heap.size w w' := by
 have hu33 := Try.underlying33
 have HR0_0 := A_ hr0_0
 have HC0_0 := A_ hc0_0
 clear hr0_0 hc0_0
 have HR0_1 := A_ hr0_1
 have HC0_1 := A_ hc0_1
 clear hr0_1 hc0_1
 have HB := A_ (Below.refl w.heap.size w)
 have H := h
 unfold Z6.f at H
 clear h
 obtain ⟨t650, A2, H⟩ := bi_ H
 by_cases c3 : t650 = true
 ·subst c3
  rw [if_pos rfl] at H
  obtain ⟨t651, A4, H⟩ := bi_ H
  obtain ⟨t654, A5, H⟩ := bi_ H
  simp only [Option.some.injEq, Prod.mk.injEq] at H
  obtain ⟨rfl, rfl, rfl⟩ := H
  go_enter Try.func115, Try.ntmps115
  try go_wp2_with (first | ((with_reducible refine gB_ (N := 1) rfl ?_); refine bx_ 1 #[.slice A0_0 l0_0.length c0_0, .slice A0_1 l0_1.length c0_1] 33 ?_; intro gb648 hg w6 hbox hb; have BK648 := A_ hbox; have GW648 := gw_ w hg; have GE648 := GW648; replace HB := b1_ hb; clear hb hbox hg) | ((with_reducible refine gB_ (N := 2) rfl ?_); refine bx_ 2 #[.slice none 0 0, .slice none 0 0] 33 ?_; intro gb649 hg w7 hbox hb; have BK649 := A_ hbox; have GW649 := gw_ w hg; have GE649 := GW649; replace HB := b1_ hb; have NB648_649 := gN_ BK648 hg; have NB649_648 := gP_ BK648 hg; replace BK648 := bb_ BK648 hb; clear hb hbox hg; have hnb8 := NB648_649.out; have hnc8 := NB649_648.out; obtain ⟨hcz9_0, hcz9_1, hfz9_0, hfz9_1⟩ := c2_ BK648) | ((with_reducible refine gA_ (f := 19) rfl ?_); refine gL_ (some 5) Try.func19 #[.agg #[.slice A0_0 l0_0.length c0_0, .slice A0_1 l0_1.length c0_1]] rfl qa_ ?_; (with_reducible refine (Z31.calls k _ _ l0_0 _ _ l0_1 true _ (cb_ HR0_0) HC0_0.out (cb_ HR0_1) HC0_1.out A2.out).mono ?_); rintro e w10 ⟨rfl, hb⟩; refine ⟨_, rfl, ?_⟩; replace BK648 := bb_ BK648 hb; replace BK649 := bb_ BK649 hb; replace HB := b1_ hb; clear hb))
  replace BK648 := A_ (kB_ BK648.out)
  replace BK649 := A_ (kB_ BK649.out)
  replace HB := A_ (bC_ HB.out)
  refine start_ (n := 11) (S := fun w' => w'.cell? ⟨gb648, 0, none⟩ = some (.slice A0_0 l0_0.length c0_0) ∧ w'.cell? ⟨gb648, 1, none⟩ = some (.slice A0_1 l0_1.length c0_1)) (ds := []) (bl_ 11 0) (by kernel_rfl) rfl (by kernel_rfl) ⟨cz0_ BK648, cz1_ BK648⟩ (fun hHeld => ?_); refine with_tabW Z6.tab3 Z6.bits3 (fun HT_ HW_ => ?_)
  generalize w10.drew = w11 at BK648 BK649 HB hHeld ⊢
  refine pu_ 0 (some 8) (bl_ 11 1) HT_ ?_
  refine pu_ 3 (some 11) (bl_ 11 9) HT_ ?_
  refine pu_ 5 (some 13) (bl_ 11 41) HT_ ?_
  refine ta_ 1 (some 9) (bl_ 11 43) HT_ HW_ hHeld ?_
  refine ta_ 4 (some 12) (bl_ 11 59) HT_ HW_ hHeld ?_
  refine ta_ 6 (some 14) (bl_ 11 123) HT_ HW_ hHeld ?_
  refine on_ 2 (some 10) (bl_ 11 127) HT_ (fun K hK => ?_)
  refine gO_ Try.func100 #[.slice A0_0 l0_0.length c0_0] (by rfl) rfl rfl qa_ ?_
  with_reducible refine (Z40.calls _ _ l0_0 t651 _ (cb_ HR0_0) HC0_0.out A4.out).mono ?_
  rintro e w12 ⟨v652, rfl, ho0, hb⟩
  refine ⟨_, rfl, ?_⟩
  have HO653 := rl_ w ho0
  replace BK648 := bb_ BK648 hb
  replace BK649 := bb_ BK649 hb
  replace HB := b1_ hb
  clear hb ho0
  refine hK.out _ _ ⟨cz0_ BK648, cz1_ BK648⟩ (fun hHeld => ?_)
  clear hK K
  refine no_ (some 10) ?_
  refine on_ 7 (some 15) (bl_ 11 255) HT_ (fun K hK => ?_)
  refine gO_ Try.func152 #[.slice A0_0 l0_0.length c0_0, .slice A0_1 l0_1.length c0_1] (by rfl) rfl rfl qa_ ?_
  with_reducible refine (Z39.calls k _ _ l0_0 _ _ l0_1 t654 _ (cb_ HR0_0) HC0_0.out (cb_ HR0_1) HC0_1.out A5.out).mono ?_
  rintro e w13 ⟨v655, rfl, ho0, hb⟩
  refine ⟨_, rfl, ?_⟩
  have HO656 := A_ (rE_ (Kd.R_new' ho0 (Kd.R_lt (rr_ HO653))) (bF_ hB_))
  replace HO653 := A_ (Kd.R_elder' (rr_ HO653) (Kd.R_base ho0) hb)
  replace BK648 := bb_ BK648 hb
  replace BK649 := bb_ BK649 hb
  replace HB := b1_ hb
  clear hb ho0
  obtain ⟨Ao14, co14, eo14⟩ := Kd.R_slice HO656.out
  (first | subst eo14 | (injection eo14 with f1_ f2_ f3_; have f4_ := f1_.symm; have f5_ := f3_.symm; clear f1_ f2_ f3_; subst f4_; subst f5_))
  obtain ⟨Ao15, co15, eo15⟩ := Kd.R_slice HO653.out
  (first | subst eo15 | (injection eo15 with f1_ f2_ f3_; have f4_ := f1_.symm; have f5_ := f3_.symm; clear f1_ f2_ f3_; subst f4_; subst f5_))
  refine hK.out _ _ ⟨cz0_ BK648, cz1_ BK648⟩ (fun hHeld => ?_)
  clear hK K
  refine no_ (some 15) ?_
  refine pu_ 8 (some 16) (bl_ 11 511) HT_ ?_
  refine on_ 9 (none) (bl_ 11 1023) HT_ (fun K hK => ?_)
  have hs16 : w13.cell? ⟨gb649, 0, none⟩ = some (.slice none 0 0) := cz0_ BK649
  have hfs16 := kD_ BK649.out 0
  have hns16_0 := NB648_649.out
  have hms16_0 := NB649_648.out
  have hs17 : w13.cell? ⟨gb649, 1, none⟩ = some (.slice none 0 0) := cz1_ BK649
  have hfs17 := kD_ BK649.out 1
  have hns17_0 := NB648_649.out
  have hms17_0 := NB649_648.out
  refine skip_ (w1 := ?_) (by rfl) rfl ?_ ?_
  rotate_left
  ·go_simp
   rfl
  refine hK.out _ _ ⟨((cell_far (p := ⟨gb649, _, none⟩) NB648_649.out _).trans (((cell_far (p := ⟨gb649, _, none⟩) NB648_649.out _).trans (hHeld.1)))), ((cell_far (p := ⟨gb649, _, none⟩) NB648_649.out _).trans (((cell_far (p := ⟨gb649, _, none⟩) NB648_649.out _).trans (hHeld.2))))⟩ (fun hHeld => ?_)
  clear hK K
  refine pu_ 10 (some 3) (bl_ 11 2047) HT_ ?_
  refine done_ (done_of HT_.out (by kernel_rfl)) ?_
  try go_wp2
  refine bodyPost_ret (results_ct rfl _ _ gb649 33 #[.slice Ao15 t651.length co15, .slice Ao14 t654.length co14] (0, 0) _ rfl qp_ Try.underlying33 rfl (by kernel_rfl)) rfl ?_
  exact ⟨_, _, qb_, (rw_ (Kd.R_mono (fa_ HO653 BK649) (fun _ hk => hk.2))), (rw_ (Kd.R_mono (fa_ HO656 BK649) (fun _ hk => hk.2))), hB_⟩
 ·replace c3 := Bool.eq_false_iff.mpr c3
  subst c3
  have H1 : (some (([] : List Int), ([] : List Int), false)) = some (r1, r2, r3) := by rw [if_neg (show ¬ (false = true) by decide)] at H; exact H
  clear H
  have H := H1
  clear H1
  simp only [Option.some.injEq, Prod.mk.injEq] at H
  obtain ⟨rfl, rfl, rfl⟩ := H
  go_enter Try.func115, Try.ntmps115
  go_wp2_with (first | ((with_reducible refine gB_ (N := 1) rfl ?_); refine bx_ 1 #[.slice A0_0 l0_0.length c0_0, .slice A0_1 l0_1.length c0_1] 33 ?_; intro gb648 hg w18 hbox hb; have BK648 := A_ hbox; have GW648 := gw_ w hg; have GE648 := GW648; replace HB := b1_ hb; clear hb hbox hg) | ((with_reducible refine gB_ (N := 2) rfl ?_); refine bx_ 2 #[.slice none 0 0, .slice none 0 0] 33 ?_; intro gb649 hg w19 hbox hb; have BK649 := A_ hbox; have GW649 := gw_ w hg; have GE649 := GW649; replace HB := b1_ hb; have NB648_649 := gN_ BK648 hg; have NB649_648 := gP_ BK648 hg; replace BK648 := bb_ BK648 hb; clear hb hbox hg; have hnb20 := NB648_649.out; have hnc20 := NB649_648.out; obtain ⟨hcz21_0, hcz21_1, hfz21_0, hfz21_1⟩ := c2_ BK648) | ((with_reducible refine gA_ (f := 19) rfl ?_); refine gL_ (some 5) Try.func19 #[.agg #[.slice A0_0 l0_0.length c0_0, .slice A0_1 l0_1.length c0_1]] rfl qa_ ?_; (with_reducible refine (Z31.calls k _ _ l0_0 _ _ l0_1 false _ (cb_ HR0_0) HC0_0.out (cb_ HR0_1) HC0_1.out A2.out).mono ?_); rintro e w22 ⟨rfl, hb⟩; refine ⟨_, rfl, ?_⟩; replace BK648 := bb_ BK648 hb; replace BK649 := bb_ BK649 hb; replace HB := b1_ hb; clear hb; obtain ⟨hcz23_0, hcz23_1, hfz23_0, hfz23_1⟩ := c2_ BK649))
  refine bodyPost_ret (results_ct rfl _ _ gb649 33 #[.slice none 0 0, .slice none 0 0] (0, 0) _ rfl qp_ Try.underlying33 rfl (by kernel_rfl)) rfl ?_
  exact ⟨_, _, qb_, by first | exact Kd.R_nil _ _ _ _ _ | exact Kd.N_nil _ _ _ _ _ | exact Kd.V_nil _ _ _ _ _ | exact Kd.Q_nil _ _ _ _ _ | exact Kd.S_nil _ _ _ _ _, by first | exact Kd.R_nil _ _ _ _ _ | exact Kd.N_nil _ _ _ _ _ | exact Kd.V_nil _ _ _ _ _ | exact Kd.Q_nil _ _ _ _ _ | exact Kd.S_nil _ _ _ _ _, hB_⟩
def Z19.f (k : Nat) (l0_0 : List Int) (l0_1 : List Int) : Option (List Int × List Int × Bool) := (Z31.f k l0_0 l0_1).bind fun t659 => (if t659 = true then ((Z17.f k l0_1).bind fun t660 => ((Z40.f l0_0).bind fun t663 => (some (t660, t663, true)))) else (some (([] : List Int), ([] : List Int), false)))
theorem Z19.mono : ∀ a0 a1 k, LeO (Z19.f k a0 a1) (Z19.f (k + 1) a0 a1) := by
 intro a0 a1 k
 unfold Z19.f
 repeat' first|exact Z17.mono _ _|exact Z31.mono _ _ _|exact lo_|refine LeO.ite ?_ ?_|refine LeO.bind ?_ (fun _ => ?_)
def Z19.T3 : Bool × List (List Nat × List Nat) := (true, [([], []), ([0], [0]), ([1], [1]), ([], []), ([3], [3]), ([4, 2], [4]), ([2, 5], [2, 5]), ([6, 5, 0, 1, 2, 3, 4, 5, 6], [6]), ([7, 0, 1, 2, 3, 4, 5, 6, 7], [])])
def Z19.B3 : List Nat := [0, 1, 3, 0, 8, 31, 63, 127, 255]
theorem Z19.tab3 : rtab .any (opsOf Try.f116 3) = Z19.T3 := by kernel_rfl
theorem Z19.bits3 : waitsOk Z19.T3.2 Z19.B3 = true := by kernel_rfl
set_option maxHeartbeats 8000000 in
set_option maxRecDepth 100000 in
theorem Z19.calls (k : Nat) (A0_0 : Option Addr) (c0_0 : Nat) (l0_0 : List Int) (A0_1 : Option Addr) (c0_1 : Nat) (l0_1 : List Int) (r1 : List Int) (r2 : List Int) (r3 : Bool) (w : World) (hr0_0 : Kd.C (Kd.int .i64) w A0_0 l0_0.length l0_0) (hc0_0 : l0_0.length ≤ c0_0) (hr0_1 : Kd.C (Kd.int .i64) w A0_1 l0_1.length l0_1) (hc0_1 : l0_1.length ≤ c0_1) (h : Z19.f k l0_0 l0_1 = some (r1, r2, r3)) :
  Calls Try.prog 116 #[.agg #[.slice A0_0 l0_0.length c0_0, .slice A0_1 l0_1.length c0_1]] w fun e w' => ∃ v0_ v1_ : Value, e = .returned (.tuple #[.agg #[v0_, v1_], .bool r3]) ∧ Kd.R (Kd.int .i64) 3 w' w.heap.size (fun k_ => some k_ ≠ (v1_ : Value).ownBlock) v0_ r1 ∧ Kd.R (Kd.int .i64) 3 w' w.heap.size (fun k_ => some k_ ≠ (v0_ : Value).ownBlock) v1_ r2 ∧ Below w.heap.size w w' := by
 have hu33 := Try.underlying33
 have HR0_0 := A_ hr0_0
 have HC0_0 := A_ hc0_0
 clear hr0_0 hc0_0
 have HR0_1 := A_ hr0_1
 have HC0_1 := A_ hc0_1
 clear hr0_1 hc0_1
 have HB := A_ (Below.refl w.heap.size w)
 have H := h
 unfold Z19.f at H
 clear h
 obtain ⟨t659, A2, H⟩ := bi_ H
 by_cases c3 : t659 = true
 ·subst c3
  rw [if_pos rfl] at H
  obtain ⟨t660, A4, H⟩ := bi_ H
  obtain ⟨t663, A5, H⟩ := bi_ H
  simp only [Option.some.injEq, Prod.mk.injEq] at H
  obtain ⟨rfl, rfl, rfl⟩ := H
  go_enter Try.func116, Try.ntmps116
  try go_wp2_with (first | ((with_reducible refine gB_ (N := 1) rfl ?_); refine bx_ 1 #[.slice A0_0 l0_0.length c0_0, .slice A0_1 l0_1.length c0_1] 33 ?_; intro gb657 hg w6 hbox hb; have BK657 := A_ hbox; have GW657 := gw_ w hg; have GE657 := GW657; replace HB := b1_ hb; clear hb hbox hg) | ((with_reducible refine gB_ (N := 2) rfl ?_); refine bx_ 2 #[.slice none 0 0, .slice none 0 0] 33 ?_; intro gb658 hg w7 hbox hb; have BK658 := A_ hbox; have GW658 := gw_ w hg; have GE658 := GW658; replace HB := b1_ hb; have NB657_658 := gN_ BK657 hg; have NB658_657 := gP_ BK657 hg; replace BK657 := bb_ BK657 hb; clear hb hbox hg; have hnb8 := NB657_658.out; have hnc8 := NB658_657.out; obtain ⟨hcz9_0, hcz9_1, hfz9_0, hfz9_1⟩ := c2_ BK657) | ((with_reducible refine gA_ (f := 19) rfl ?_); refine gL_ (some 5) Try.func19 #[.agg #[.slice A0_0 l0_0.length c0_0, .slice A0_1 l0_1.length c0_1]] rfl qa_ ?_; (with_reducible refine (Z31.calls k _ _ l0_0 _ _ l0_1 true _ (cb_ HR0_0) HC0_0.out (cb_ HR0_1) HC0_1.out A2.out).mono ?_); rintro e w10 ⟨rfl, hb⟩; refine ⟨_, rfl, ?_⟩; replace BK657 := bb_ BK657 hb; replace BK658 := bb_ BK658 hb; replace HB := b1_ hb; clear hb))
  replace BK657 := A_ (kB_ BK657.out)
  replace BK658 := A_ (kB_ BK658.out)
  replace HB := A_ (bC_ HB.out)
  refine start_ (n := 9) (S := fun w' => w'.cell? ⟨gb657, 0, none⟩ = some (.slice A0_0 l0_0.length c0_0) ∧ w'.cell? ⟨gb657, 1, none⟩ = some (.slice A0_1 l0_1.length c0_1)) (ds := []) (bl_ 9 0) (by kernel_rfl) rfl (by kernel_rfl) ⟨cz0_ BK657, cz1_ BK657⟩ (fun hHeld => ?_); refine with_tabW Z19.tab3 Z19.bits3 (fun HT_ HW_ => ?_)
  generalize w10.drew = w11 at BK657 BK658 HB hHeld ⊢
  refine pu_ 0 (some 8) (bl_ 9 1) HT_ ?_
  refine pu_ 3 (some 11) (bl_ 9 9) HT_ ?_
  refine ta_ 1 (some 9) (bl_ 9 11) HT_ HW_ hHeld ?_
  refine ta_ 4 (some 12) (bl_ 9 27) HT_ HW_ hHeld ?_
  refine on_ 2 (some 10) (bl_ 9 31) HT_ (fun K hK => ?_)
  refine gO_ Try.func122 #[.slice A0_1 l0_1.length c0_1] (by rfl) rfl rfl qa_ ?_
  with_reducible refine (Z17.calls k _ _ l0_1 t660 _ (cb_ HR0_1) HC0_1.out A4.out).mono ?_
  rintro e w12 ⟨v661, rfl, ho0, hb⟩
  refine ⟨_, rfl, ?_⟩
  have HO662 := rl_ w ho0
  replace BK657 := bb_ BK657 hb
  replace BK658 := bb_ BK658 hb
  replace HB := b1_ hb
  clear hb ho0
  refine hK.out _ _ ⟨cz0_ BK657, cz1_ BK657⟩ (fun hHeld => ?_)
  clear hK K
  refine no_ (some 10) ?_
  refine on_ 5 (some 13) (bl_ 9 63) HT_ (fun K hK => ?_)
  refine gO_ Try.func100 #[.slice A0_0 l0_0.length c0_0] (by rfl) rfl rfl qa_ ?_
  with_reducible refine (Z40.calls _ _ l0_0 t663 _ (cb_ HR0_0) HC0_0.out A5.out).mono ?_
  rintro e w13 ⟨v664, rfl, ho0, hb⟩
  refine ⟨_, rfl, ?_⟩
  have HO665 := A_ (rE_ (Kd.R_new' ho0 (Kd.R_lt (rr_ HO662))) (bF_ hB_))
  replace HO662 := A_ (Kd.R_elder' (rr_ HO662) (Kd.R_base ho0) hb)
  replace BK657 := bb_ BK657 hb
  replace BK658 := bb_ BK658 hb
  replace HB := b1_ hb
  clear hb ho0
  obtain ⟨Ao14, co14, eo14⟩ := Kd.R_slice HO665.out
  (first | subst eo14 | (injection eo14 with f1_ f2_ f3_; have f4_ := f1_.symm; have f5_ := f3_.symm; clear f1_ f2_ f3_; subst f4_; subst f5_))
  obtain ⟨Ao15, co15, eo15⟩ := Kd.R_slice HO662.out
  (first | subst eo15 | (injection eo15 with f1_ f2_ f3_; have f4_ := f1_.symm; have f5_ := f3_.symm; clear f1_ f2_ f3_; subst f4_; subst f5_))
  refine hK.out _ _ ⟨cz0_ BK657, cz1_ BK657⟩ (fun hHeld => ?_)
  clear hK K
  refine no_ (some 13) ?_
  refine pu_ 6 (some 14) (bl_ 9 127) HT_ ?_
  refine on_ 7 (none) (bl_ 9 255) HT_ (fun K hK => ?_)
  have hs16 : w13.cell? ⟨gb658, 0, none⟩ = some (.slice none 0 0) := cz0_ BK658
  have hfs16 := kD_ BK658.out 0
  have hns16_0 := NB657_658.out
  have hms16_0 := NB658_657.out
  have hs17 : w13.cell? ⟨gb658, 1, none⟩ = some (.slice none 0 0) := cz1_ BK658
  have hfs17 := kD_ BK658.out 1
  have hns17_0 := NB657_658.out
  have hms17_0 := NB658_657.out
  refine skip_ (w1 := ?_) (by rfl) rfl ?_ ?_
  rotate_left
  ·go_simp
   rfl
  refine hK.out _ _ ⟨((cell_far (p := ⟨gb658, _, none⟩) NB657_658.out _).trans (((cell_far (p := ⟨gb658, _, none⟩) NB657_658.out _).trans (hHeld.1)))), ((cell_far (p := ⟨gb658, _, none⟩) NB657_658.out _).trans (((cell_far (p := ⟨gb658, _, none⟩) NB657_658.out _).trans (hHeld.2))))⟩ (fun hHeld => ?_)
  clear hK K
  refine pu_ 8 (some 3) (bl_ 9 511) HT_ ?_
  refine done_ (done_of HT_.out (by kernel_rfl)) ?_
  try go_wp2
  refine bodyPost_ret (results_ct rfl _ _ gb658 33 #[.slice Ao15 t660.length co15, .slice Ao14 t663.length co14] (0, 0) _ rfl qp_ Try.underlying33 rfl (by kernel_rfl)) rfl ?_
  exact ⟨_, _, qb_, (rw_ (Kd.R_mono (fa_ HO662 BK658) (fun _ hk => hk.2))), (rw_ (Kd.R_mono (fa_ HO665 BK658) (fun _ hk => hk.2))), hB_⟩
 ·replace c3 := Bool.eq_false_iff.mpr c3
  subst c3
  have H1 : (some (([] : List Int), ([] : List Int), false)) = some (r1, r2, r3) := by rw [if_neg (show ¬ (false = true) by decide)] at H; exact H
  clear H
  have H := H1
  clear H1
  simp only [Option.some.injEq, Prod.mk.injEq] at H
  obtain ⟨rfl, rfl, rfl⟩ := H
  go_enter Try.func116, Try.ntmps116
  go_wp2_with (first | ((with_reducible refine gB_ (N := 1) rfl ?_); refine bx_ 1 #[.slice A0_0 l0_0.length c0_0, .slice A0_1 l0_1.length c0_1] 33 ?_; intro gb657 hg w18 hbox hb; have BK657 := A_ hbox; have GW657 := gw_ w hg; have GE657 := GW657; replace HB := b1_ hb; clear hb hbox hg) | ((with_reducible refine gB_ (N := 2) rfl ?_); refine bx_ 2 #[.slice none 0 0, .slice none 0 0] 33 ?_; intro gb658 hg w19 hbox hb; have BK658 := A_ hbox; have GW658 := gw_ w hg; have GE658 := GW658; replace HB := b1_ hb; have NB657_658 := gN_ BK657 hg; have NB658_657 := gP_ BK657 hg; replace BK657 := bb_ BK657 hb; clear hb hbox hg; have hnb20 := NB657_658.out; have hnc20 := NB658_657.out; obtain ⟨hcz21_0, hcz21_1, hfz21_0, hfz21_1⟩ := c2_ BK657) | ((with_reducible refine gA_ (f := 19) rfl ?_); refine gL_ (some 5) Try.func19 #[.agg #[.slice A0_0 l0_0.length c0_0, .slice A0_1 l0_1.length c0_1]] rfl qa_ ?_; (with_reducible refine (Z31.calls k _ _ l0_0 _ _ l0_1 false _ (cb_ HR0_0) HC0_0.out (cb_ HR0_1) HC0_1.out A2.out).mono ?_); rintro e w22 ⟨rfl, hb⟩; refine ⟨_, rfl, ?_⟩; replace BK657 := bb_ BK657 hb; replace BK658 := bb_ BK658 hb; replace HB := b1_ hb; clear hb; obtain ⟨hcz23_0, hcz23_1, hfz23_0, hfz23_1⟩ := c2_ BK658))
  refine bodyPost_ret (results_ct rfl _ _ gb658 33 #[.slice none 0 0, .slice none 0 0] (0, 0) _ rfl qp_ Try.underlying33 rfl (by kernel_rfl)) rfl ?_
  exact ⟨_, _, qb_, by first | exact Kd.R_nil _ _ _ _ _ | exact Kd.N_nil _ _ _ _ _ | exact Kd.V_nil _ _ _ _ _ | exact Kd.Q_nil _ _ _ _ _ | exact Kd.S_nil _ _ _ _ _, by first | exact Kd.R_nil _ _ _ _ _ | exact Kd.N_nil _ _ _ _ _ | exact Kd.V_nil _ _ _ _ _ | exact Kd.Q_nil _ _ _ _ _ | exact Kd.S_nil _ _ _ _ _, hB_⟩
def Z9.f (k : Nat) (l0_0 : List Int) (l0_1 : List Int) : Option (List Int × List Int × Bool) := (Z31.f k l0_0 l0_1).bind fun t668 => (if t668 = true then ((Z40.f l0_1).bind fun t669 => ((Z17.f k l0_0).bind fun t672 => (some (t669, t672, true)))) else (some (([] : List Int), ([] : List Int), false)))
theorem Z9.mono : ∀ a0 a1 k, LeO (Z9.f k a0 a1) (Z9.f (k + 1) a0 a1) := by
 intro a0 a1 k
 unfold Z9.f
 repeat' first|exact Z17.mono _ _|exact Z31.mono _ _ _|exact lo_|refine LeO.ite ?_ ?_|refine LeO.bind ?_ (fun _ => ?_)
def Z9.T3 : Bool × List (List Nat × List Nat) := (true, [([], []), ([0], [0]), ([1], [1]), ([], []), ([3], [3]), ([4, 2], [4]), ([2, 5], [2, 5]), ([6, 5, 0, 1, 2, 3, 4, 5, 6], [6]), ([7, 0, 1, 2, 3, 4, 5, 6, 7], [])])
def Z9.B3 : List Nat := [0, 1, 3, 0, 8, 31, 63, 127, 255]
theorem Z9.tab3 : rtab .any (opsOf Try.f117 3) = Z9.T3 := by kernel_rfl
theorem Z9.bits3 : waitsOk Z9.T3.2 Z9.B3 = true := by kernel_rfl
set_option maxHeartbeats 8000000 in
set_option maxRecDepth 100000 in
theorem Z9.calls (k : Nat) (A0_0 : Option Addr) (c0_0 : Nat) (l0_0 : List Int) (A0_1 : Option Addr) (c0_1 : Nat) (l0_1 : List Int) (r1 : List Int) (r2 : List Int) (r3 : Bool) (w : World) (hr0_0 : Kd.C (Kd.int .i64) w A0_0 l0_0.length l0_0) (hc0_0 : l0_0.length ≤ c0_0) (hr0_1 : Kd.C (Kd.int .i64) w A0_1 l0_1.length l0_1) (hc0_1 : l0_1.length ≤ c0_1) (h : Z9.f k l0_0 l0_1 = some (r1, r2, r3)) :
  Calls Try.prog 117 #[.agg #[.slice A0_0 l0_0.length c0_0, .slice A0_1 l0_1.length c0_1]] w fun e w' => ∃ v0_ v1_ : Value, e = .returned (.tuple #[.agg #[v0_, v1_], .bool r3]) ∧ Kd.R (Kd.int .i64) 3 w' w.heap.size (fun k_ => some k_ ≠ (v1_ : Value).ownBlock) v0_ r1 ∧ Kd.R (Kd.int .i64) 3 w' w.heap.size (fun k_ => some k_ ≠ (v0_ : Value).ownBlock) v1_ r2 ∧ Below w.heap.size w w' := by
 have hu33 := Try.underlying33
 have HR0_0 := A_ hr0_0
 have HC0_0 := A_ hc0_0
 clear hr0_0 hc0_0
 have HR0_1 := A_ hr0_1
 have HC0_1 := A_ hc0_1
 clear hr0_1 hc0_1
 have HB := A_ (Below.refl w.heap.size w)
 have H := h
 unfold Z9.f at H
 clear h
 obtain ⟨t668, A2, H⟩ := bi_ H
 by_cases c3 : t668 = true
 ·subst c3
  rw [if_pos rfl] at H
  obtain ⟨t669, A4, H⟩ := bi_ H
  obtain ⟨t672, A5, H⟩ := bi_ H
  simp only [Option.some.injEq, Prod.mk.injEq] at H
  obtain ⟨rfl, rfl, rfl⟩ := H
  go_enter Try.func117, Try.ntmps117
  try go_wp2_with (first | ((with_reducible refine gB_ (N := 1) rfl ?_); refine bx_ 1 #[.slice A0_0 l0_0.length c0_0, .slice A0_1 l0_1.length c0_1] 33 ?_; intro gb666 hg w6 hbox hb; have BK666 := A_ hbox; have GW666 := gw_ w hg; have GE666 := GW666; replace HB := b1_ hb; clear hb hbox hg) | ((with_reducible refine gB_ (N := 2) rfl ?_); refine bx_ 2 #[.slice none 0 0, .slice none 0 0] 33 ?_; intro gb667 hg w7 hbox hb; have BK667 := A_ hbox; have GW667 := gw_ w hg; have GE667 := GW667; replace HB := b1_ hb; have NB666_667 := gN_ BK666 hg; have NB667_666 := gP_ BK666 hg; replace BK666 := bb_ BK666 hb; clear hb hbox hg; have hnb8 := NB666_667.out; have hnc8 := NB667_666.out; obtain ⟨hcz9_0, hcz9_1, hfz9_0, hfz9_1⟩ := c2_ BK666) | ((with_reducible refine gA_ (f := 19) rfl ?_); refine gL_ (some 5) Try.func19 #[.agg #[.slice A0_0 l0_0.length c0_0, .slice A0_1 l0_1.length c0_1]] rfl qa_ ?_; (with_reducible refine (Z31.calls k _ _ l0_0 _ _ l0_1 true _ (cb_ HR0_0) HC0_0.out (cb_ HR0_1) HC0_1.out A2.out).mono ?_); rintro e w10 ⟨rfl, hb⟩; refine ⟨_, rfl, ?_⟩; replace BK666 := bb_ BK666 hb; replace BK667 := bb_ BK667 hb; replace HB := b1_ hb; clear hb))
  replace BK666 := A_ (kB_ BK666.out)
  replace BK667 := A_ (kB_ BK667.out)
  replace HB := A_ (bC_ HB.out)
  refine start_ (n := 9) (S := fun w' => w'.cell? ⟨gb666, 0, none⟩ = some (.slice A0_0 l0_0.length c0_0) ∧ w'.cell? ⟨gb666, 1, none⟩ = some (.slice A0_1 l0_1.length c0_1)) (ds := []) (bl_ 9 0) (by kernel_rfl) rfl (by kernel_rfl) ⟨cz0_ BK666, cz1_ BK666⟩ (fun hHeld => ?_); refine with_tabW Z9.tab3 Z9.bits3 (fun HT_ HW_ => ?_)
  generalize w10.drew = w11 at BK666 BK667 HB hHeld ⊢
  refine pu_ 0 (some 8) (bl_ 9 1) HT_ ?_
  refine pu_ 3 (some 11) (bl_ 9 9) HT_ ?_
  refine ta_ 1 (some 9) (bl_ 9 11) HT_ HW_ hHeld ?_
  refine ta_ 4 (some 12) (bl_ 9 27) HT_ HW_ hHeld ?_
  refine on_ 2 (some 10) (bl_ 9 31) HT_ (fun K hK => ?_)
  refine gO_ Try.func100 #[.slice A0_1 l0_1.length c0_1] (by rfl) rfl rfl qa_ ?_
  with_reducible refine (Z40.calls _ _ l0_1 t669 _ (cb_ HR0_1) HC0_1.out A4.out).mono ?_
  rintro e w12 ⟨v670, rfl, ho0, hb⟩
  refine ⟨_, rfl, ?_⟩
  have HO671 := rl_ w ho0
  replace BK666 := bb_ BK666 hb
  replace BK667 := bb_ BK667 hb
  replace HB := b1_ hb
  clear hb ho0
  refine hK.out _ _ ⟨cz0_ BK666, cz1_ BK666⟩ (fun hHeld => ?_)
  clear hK K
  refine no_ (some 10) ?_
  refine on_ 5 (some 13) (bl_ 9 63) HT_ (fun K hK => ?_)
  refine gO_ Try.func122 #[.slice A0_0 l0_0.length c0_0] (by rfl) rfl rfl qa_ ?_
  with_reducible refine (Z17.calls k _ _ l0_0 t672 _ (cb_ HR0_0) HC0_0.out A5.out).mono ?_
  rintro e w13 ⟨v673, rfl, ho0, hb⟩
  refine ⟨_, rfl, ?_⟩
  have HO674 := A_ (rE_ (Kd.R_new' ho0 (Kd.R_lt (rr_ HO671))) (bF_ hB_))
  replace HO671 := A_ (Kd.R_elder' (rr_ HO671) (Kd.R_base ho0) hb)
  replace BK666 := bb_ BK666 hb
  replace BK667 := bb_ BK667 hb
  replace HB := b1_ hb
  clear hb ho0
  obtain ⟨Ao14, co14, eo14⟩ := Kd.R_slice HO674.out
  (first | subst eo14 | (injection eo14 with f1_ f2_ f3_; have f4_ := f1_.symm; have f5_ := f3_.symm; clear f1_ f2_ f3_; subst f4_; subst f5_))
  obtain ⟨Ao15, co15, eo15⟩ := Kd.R_slice HO671.out
  (first | subst eo15 | (injection eo15 with f1_ f2_ f3_; have f4_ := f1_.symm; have f5_ := f3_.symm; clear f1_ f2_ f3_; subst f4_; subst f5_))
  refine hK.out _ _ ⟨cz0_ BK666, cz1_ BK666⟩ (fun hHeld => ?_)
  clear hK K
  refine no_ (some 13) ?_
  refine pu_ 6 (some 14) (bl_ 9 127) HT_ ?_
  refine on_ 7 (none) (bl_ 9 255) HT_ (fun K hK => ?_)
  have hs16 : w13.cell? ⟨gb667, 0, none⟩ = some (.slice none 0 0) := cz0_ BK667
  have hfs16 := kD_ BK667.out 0
  have hns16_0 := NB666_667.out
  have hms16_0 := NB667_666.out
  have hs17 : w13.cell? ⟨gb667, 1, none⟩ = some (.slice none 0 0) := cz1_ BK667
  have hfs17 := kD_ BK667.out 1
  have hns17_0 := NB666_667.out
  have hms17_0 := NB667_666.out
  refine skip_ (w1 := ?_) (by rfl) rfl ?_ ?_
  rotate_left
  ·go_simp
   rfl
  refine hK.out _ _ ⟨((cell_far (p := ⟨gb667, _, none⟩) NB666_667.out _).trans (((cell_far (p := ⟨gb667, _, none⟩) NB666_667.out _).trans (hHeld.1)))), ((cell_far (p := ⟨gb667, _, none⟩) NB666_667.out _).trans (((cell_far (p := ⟨gb667, _, none⟩) NB666_667.out _).trans (hHeld.2))))⟩ (fun hHeld => ?_)
  clear hK K
  refine pu_ 8 (some 3) (bl_ 9 511) HT_ ?_
  refine done_ (done_of HT_.out (by kernel_rfl)) ?_
  try go_wp2
  refine bodyPost_ret (results_ct rfl _ _ gb667 33 #[.slice Ao15 t669.length co15, .slice Ao14 t672.length co14] (0, 0) _ rfl qp_ Try.underlying33 rfl (by kernel_rfl)) rfl ?_
  exact ⟨_, _, qb_, (rw_ (Kd.R_mono (fa_ HO671 BK667) (fun _ hk => hk.2))), (rw_ (Kd.R_mono (fa_ HO674 BK667) (fun _ hk => hk.2))), hB_⟩
 ·replace c3 := Bool.eq_false_iff.mpr c3
  subst c3
  have H1 : (some (([] : List Int), ([] : List Int), false)) = some (r1, r2, r3) := by rw [if_neg (show ¬ (false = true) by decide)] at H; exact H
  clear H
  have H := H1
  clear H1
  simp only [Option.some.injEq, Prod.mk.injEq] at H
  obtain ⟨rfl, rfl, rfl⟩ := H
  go_enter Try.func117, Try.ntmps117
  go_wp2_with (first | ((with_reducible refine gB_ (N := 1) rfl ?_); refine bx_ 1 #[.slice A0_0 l0_0.length c0_0, .slice A0_1 l0_1.length c0_1] 33 ?_; intro gb666 hg w18 hbox hb; have BK666 := A_ hbox; have GW666 := gw_ w hg; have GE666 := GW666; replace HB := b1_ hb; clear hb hbox hg) | ((with_reducible refine gB_ (N := 2) rfl ?_); refine bx_ 2 #[.slice none 0 0, .slice none 0 0] 33 ?_; intro gb667 hg w19 hbox hb; have BK667 := A_ hbox; have GW667 := gw_ w hg; have GE667 := GW667; replace HB := b1_ hb; have NB666_667 := gN_ BK666 hg; have NB667_666 := gP_ BK666 hg; replace BK666 := bb_ BK666 hb; clear hb hbox hg; have hnb20 := NB666_667.out; have hnc20 := NB667_666.out; obtain ⟨hcz21_0, hcz21_1, hfz21_0, hfz21_1⟩ := c2_ BK666) | ((with_reducible refine gA_ (f := 19) rfl ?_); refine gL_ (some 5) Try.func19 #[.agg #[.slice A0_0 l0_0.length c0_0, .slice A0_1 l0_1.length c0_1]] rfl qa_ ?_; (with_reducible refine (Z31.calls k _ _ l0_0 _ _ l0_1 false _ (cb_ HR0_0) HC0_0.out (cb_ HR0_1) HC0_1.out A2.out).mono ?_); rintro e w22 ⟨rfl, hb⟩; refine ⟨_, rfl, ?_⟩; replace BK666 := bb_ BK666 hb; replace BK667 := bb_ BK667 hb; replace HB := b1_ hb; clear hb; obtain ⟨hcz23_0, hcz23_1, hfz23_0, hfz23_1⟩ := c2_ BK667))
  refine bodyPost_ret (results_ct rfl _ _ gb667 33 #[.slice none 0 0, .slice none 0 0] (0, 0) _ rfl qp_ Try.underlying33 rfl (by kernel_rfl)) rfl ?_
  exact ⟨_, _, qb_, by first | exact Kd.R_nil _ _ _ _ _ | exact Kd.N_nil _ _ _ _ _ | exact Kd.V_nil _ _ _ _ _ | exact Kd.Q_nil _ _ _ _ _ | exact Kd.S_nil _ _ _ _ _, by first | exact Kd.R_nil _ _ _ _ _ | exact Kd.N_nil _ _ _ _ _ | exact Kd.V_nil _ _ _ _ _ | exact Kd.Q_nil _ _ _ _ _ | exact Kd.S_nil _ _ _ _ _, hB_⟩
def Z10.f (k : Nat) (l0_0 : List Int) (l0_1 : List Int) (a1 : Int) : Option (List Int × List Int) := if a1 = 84 then ((Z13.f k l0_0 l0_1).bind fun bt678 => (some (bt678.1, bt678.2.1))) else (if a1 = 116 then ((Z6.f k l0_0 l0_1).bind fun bt685 => (some (bt685.1, bt685.2.1))) else (if a1 = 83 then ((Z19.f k l0_0 l0_1).bind fun bt692 => (some (bt692.1, bt692.2.1))) else (if a1 = 115 then ((Z9.f k l0_0 l0_1).bind fun bt699 => (some (bt699.1, bt699.2.1))) else (some (([] : List Int), ([] : List Int))))))
theorem Z10.mono : ∀ a0 a1 a2 k, LeO (Z10.f k a0 a1 a2) (Z10.f (k + 1) a0 a1 a2) := by
 intro a0 a1 a2 k
 unfold Z10.f
 repeat' first|exact Z13.mono _ _ _|exact Z19.mono _ _ _|exact Z6.mono _ _ _|exact Z9.mono _ _ _|exact lo_|refine LeO.ite ?_ ?_|refine LeO.bind ?_ (fun _ => ?_)
set_option maxHeartbeats 8000000 in
set_option maxRecDepth 100000 in
theorem Z10.calls (k : Nat) (A0_0 : Option Addr) (c0_0 : Nat) (l0_0 : List Int) (A0_1 : Option Addr) (c0_1 : Nat) (l0_1 : List Int) (a1 : Int) (r1 : List Int) (r2 : List Int) (w : World) (hr0_0 : Kd.C (Kd.int .i64) w A0_0 l0_0.length l0_0) (hc0_0 : l0_0.length ≤ c0_0) (hr0_1 : Kd.C (Kd.int .i64) w A0_1 l0_1.length l0_1) (hc0_1 : l0_1.length ≤ c0_1) (h : Z10.f k l0_0 l0_1 a1 = some (r1, r2)) :
  Calls Try.prog 70 #[.agg #[.slice A0_0 l0_0.length c0_0, .slice A0_1 l0_1.length c0_1], .int .u8 a1] w fun e w' => ∃ v0_ v1_ : Value, e = .returned (.agg #[v0_, v1_]) ∧ Kd.R (Kd.int .i64) 3 w' w.heap.size (fun k_ => some k_ ≠ (v1_ : Value).ownBlock) v0_ r1 ∧ Kd.R (Kd.int .i64) 3 w' w.heap.size (fun k_ => some k_ ≠ (v0_ : Value).ownBlock) v1_ r2 ∧ Below w.heap.size w w' := by
 have hu33 := Try.underlying33
 have HR0_0 := A_ hr0_0
 have HC0_0 := A_ hc0_0
 clear hr0_0 hc0_0
 have HR0_1 := A_ hr0_1
 have HC0_1 := A_ hc0_1
 clear hr0_1 hc0_1
 have HB := A_ (Below.refl w.heap.size w)
 have H := h
 unfold Z10.f at H
 clear h
 by_cases c3 : a1 = 84
 ·rw [if_pos c3] at H
  have c3b0 : (a1 == 84) = true := beq_iff_eq.mpr c3
  have c3b1 : (a1 != 84) = false := bne_eq_false_iff_eq.mpr c3
  clear c3
  obtain ⟨⟨t678, t681, t684⟩, A4, H⟩ := bi_ H
  try dsimp only at H
  simp only [Option.some.injEq, Prod.mk.injEq] at H
  obtain ⟨rfl, rfl⟩ := H
  go_enter Try.func70, Try.ntmps70
  go_wp2_with (first | ((with_reducible refine gB_ (N := 2) rfl ?_); refine bx_ 2 #[.slice A0_0 l0_0.length c0_0, .slice A0_1 l0_1.length c0_1] 33 ?_; intro gb675 hg w5 hbox hb; have BK675 := A_ hbox; have GW675 := gw_ w hg; have GE675 := GW675; replace HB := b1_ hb; clear hb hbox hg) | ((with_reducible refine gB_ (N := 4) rfl ?_); refine bx_ 4 #[.slice none 0 0, .slice none 0 0] 33 ?_; intro gb676 hg w6 hbox hb; have BK676 := A_ hbox; have GW676 := gw_ w hg; have GE676 := GW676; replace HB := b1_ hb; have NB675_676 := gN_ BK675 hg; have NB676_675 := gP_ BK675 hg; replace BK675 := bb_ BK675 hb; clear hb hbox hg) | ((with_reducible refine gB_ (N := 5) rfl ?_); refine bx_ 5 #[.slice none 0 0, .slice none 0 0] 33 ?_; intro gb677 hg w7 hbox hb; have BK677 := A_ hbox; have GW677 := gw_ w hg; have GE677 := GW677; replace HB := b1_ hb; have NB675_677 := gN_ BK675 hg; have NB677_675 := gP_ BK675 hg; replace BK675 := bb_ BK675 hb; have NB676_677 := gN_ BK676 hg; have NB677_676 := gP_ BK676 hg; replace BK676 := bb_ BK676 hb; clear hb hbox hg; have hnb8 := NB677_675.out; have hnc8 := NB675_677.out; have hnb9 := NB677_676.out; have hnc9 := NB676_677.out; obtain ⟨hcz10_0, hcz10_1, hfz10_0, hfz10_1⟩ := c2_ BK677; have hnb11 := NB675_676.out; have hnc11 := NB676_675.out; obtain ⟨hcz12_0, hcz12_1, hfz12_0, hfz12_1⟩ := c2_ BK675) | ((with_reducible refine gA_ (f := 114) rfl ?_); refine gL_ (some 12) Try.func114 #[.agg #[.slice A0_0 l0_0.length c0_0, .slice A0_1 l0_1.length c0_1]] rfl qa_ ?_; (with_reducible refine (Z13.calls k _ _ l0_0 _ _ l0_1 t678 t681 t684 _ (cD_ HR0_0.out hB_) HC0_0.out (cD_ HR0_1.out hB_) HC0_1.out A4.out).mono ?_); rintro e w13 ⟨v679, v682, rfl, ho0, ho1, hb⟩; refine ⟨_, rfl, ?_⟩; have HO680 := rl_ w ho0; have HO683 := rl_ w ho1; replace BK675 := A_ (kE_ (g := gb675) (o := .cells #[.slice A0_0 l0_0.length c0_0, .slice A0_1 l0_1.length c0_1] 33 (0, 0)) (by (with_reducible repeat (first | refine kA_ ?_ _ | refine kB_ ?_ | refine kC_ ?_ _)); refine blk_far ?_ NB675_677.out _; (with_reducible repeat (first | refine kA_ ?_ _ | refine kB_ ?_ | refine kC_ ?_ _)); refine blk_far ?_ NB675_677.out _; (with_reducible repeat (first | refine kA_ ?_ _ | refine kB_ ?_ | refine kC_ ?_ _)); exact BK675.out) hb); replace BK676 := A_ (kE_ (g := gb676) (o := .cells #[.slice none 0 0, .slice none 0 0] 33 (0, 0)) (by (with_reducible repeat (first | refine kA_ ?_ _ | refine kB_ ?_ | refine kC_ ?_ _)); refine blk_far ?_ NB676_677.out _; (with_reducible repeat (first | refine kA_ ?_ _ | refine kB_ ?_ | refine kC_ ?_ _)); refine blk_far ?_ NB676_677.out _; (with_reducible repeat (first | refine kA_ ?_ _ | refine kB_ ?_ | refine kC_ ?_ _)); exact BK676.out) hb); replace BK677 := A_ (kE_ (g := gb677) (o := .cells #[.slice none 0 0, .slice none 0 0] 33 (0, 0)) qp_ hb); replace HB := b1_ hb; clear hb ho0 ho1; obtain ⟨Ao14, co14, eo14⟩ := Kd.R_slice HO680.out; subst eo14; obtain ⟨hcz15_0, hcz15_1, hfz15_0, hfz15_1⟩ := c2_ BK677; obtain ⟨Ao16, co16, eo16⟩ := Kd.R_slice HO683.out; subst eo16; obtain ⟨hcz17_0, hcz17_1, hfz17_0, hfz17_1⟩ := c2_ BK676))
  refine bodyPost_ret (results_cell_row rfl _ _ gb676 33 #[.slice Ao14 t678.length co14, .slice Ao16 t681.length co16] (0, 0) _ rfl (by (with_reducible repeat (first | refine kA_ ?_ _ | refine kB_ ?_ | refine kC_ ?_ _)); refine blk_put (cs := #[.slice Ao14 t678.length co14, .slice none 0 0]) ?_ 1 _ rfl; (with_reducible repeat (first | refine kA_ ?_ _ | refine kB_ ?_ | refine kC_ ?_ _)); refine blk_put (cs := #[.slice none 0 0, .slice none 0 0]) ?_ 0 _ rfl; (with_reducible repeat (first | refine kA_ ?_ _ | refine kB_ ?_ | refine kC_ ?_ _)); refine blk_far ?_ NB676_677.out _; (with_reducible repeat (first | refine kA_ ?_ _ | refine kB_ ?_ | refine kC_ ?_ _)); refine blk_far ?_ NB676_677.out _; (with_reducible repeat (first | refine kA_ ?_ _ | refine kB_ ?_ | refine kC_ ?_ _)); exact BK676.out) Try.underlying33 rfl (by kernel_rfl)) rfl ?_
  exact ⟨_, _, qb_, (rw_ (Kd.R_mono (Kd.R_far (p := ⟨gb676, 1, none⟩) (Kd.R_far (p := ⟨gb676, 0, none⟩) (Kd.R_far (p := ⟨gb677, 1, none⟩) (Kd.R_far (p := ⟨gb677, 0, none⟩) (Kd.R_types (Kd.R_types HO680.out BK677.out (by decide)) BK676.out (by decide)) (fun _ hk => hk.1.2) (.slice Ao14 t678.length co14)) (fun _ hk => hk.1.2) (.slice Ao16 t681.length co16)) (fun _ hk => hk.2) (.slice Ao14 t678.length co14)) (fun _ hk => hk.2) (.slice Ao16 t681.length co16)) (fun _ hk => hk.1.1))), (rw_ (Kd.R_mono (Kd.R_far (p := ⟨gb676, 1, none⟩) (Kd.R_far (p := ⟨gb676, 0, none⟩) (Kd.R_far (p := ⟨gb677, 1, none⟩) (Kd.R_far (p := ⟨gb677, 0, none⟩) (Kd.R_types (Kd.R_types HO683.out BK677.out (by decide)) BK676.out (by decide)) (fun _ hk => hk.1.2) (.slice Ao14 t678.length co14)) (fun _ hk => hk.1.2) (.slice Ao16 t681.length co16)) (fun _ hk => hk.2) (.slice Ao14 t678.length co14)) (fun _ hk => hk.2) (.slice Ao16 t681.length co16)) (fun _ hk => hk.1.1))), hB_⟩
 ·rw [if_neg c3] at H
  have c3b0 : (a1 == 84) = false := beq_eq_false_iff_ne.mpr c3
  have c3b1 : (a1 != 84) = true := bne_iff_ne.mpr c3
  by_cases c18 : a1 = 116
  ·rw [if_pos c18] at H
   have c18b0 : (a1 == 116) = true := beq_iff_eq.mpr c18
   have c18b1 : (a1 != 116) = false := bne_eq_false_iff_eq.mpr c18
   clear c18
   obtain ⟨⟨t685, t688, t691⟩, A19, H⟩ := bi_ H
   try dsimp only at H
   simp only [Option.some.injEq, Prod.mk.injEq] at H
   obtain ⟨rfl, rfl⟩ := H
   go_enter Try.func70, Try.ntmps70
   go_wp2_with (first | ((with_reducible refine gB_ (N := 2) rfl ?_); refine bx_ 2 #[.slice A0_0 l0_0.length c0_0, .slice A0_1 l0_1.length c0_1] 33 ?_; intro gb675 hg w20 hbox hb; have BK675 := A_ hbox; have GW675 := gw_ w hg; have GE675 := GW675; replace HB := b1_ hb; clear hb hbox hg) | ((with_reducible refine gB_ (N := 4) rfl ?_); refine bx_ 4 #[.slice none 0 0, .slice none 0 0] 33 ?_; intro gb676 hg w21 hbox hb; have BK676 := A_ hbox; have GW676 := gw_ w hg; have GE676 := GW676; replace HB := b1_ hb; have NB675_676 := gN_ BK675 hg; have NB676_675 := gP_ BK675 hg; replace BK675 := bb_ BK675 hb; clear hb hbox hg) | ((with_reducible refine gB_ (N := 5) rfl ?_); refine bx_ 5 #[.slice none 0 0, .slice none 0 0] 33 ?_; intro gb677 hg w22 hbox hb; have BK677 := A_ hbox; have GW677 := gw_ w hg; have GE677 := GW677; replace HB := b1_ hb; have NB675_677 := gN_ BK675 hg; have NB677_675 := gP_ BK675 hg; replace BK675 := bb_ BK675 hb; have NB676_677 := gN_ BK676 hg; have NB677_676 := gP_ BK676 hg; replace BK676 := bb_ BK676 hb; clear hb hbox hg; have hnb23 := NB677_675.out; have hnc23 := NB675_677.out; have hnb24 := NB677_676.out; have hnc24 := NB676_677.out; obtain ⟨hcz25_0, hcz25_1, hfz25_0, hfz25_1⟩ := c2_ BK677; have hnb26 := NB675_676.out; have hnc26 := NB676_675.out; obtain ⟨hcz27_0, hcz27_1, hfz27_0, hfz27_1⟩ := c2_ BK675) | ((with_reducible refine gA_ (f := 115) rfl ?_); refine gL_ (some 19) Try.func115 #[.agg #[.slice A0_0 l0_0.length c0_0, .slice A0_1 l0_1.length c0_1]] rfl qa_ ?_; (with_reducible refine (Z6.calls k _ _ l0_0 _ _ l0_1 t685 t688 t691 _ (cD_ HR0_0.out hB_) HC0_0.out (cD_ HR0_1.out hB_) HC0_1.out A19.out).mono ?_); rintro e w28 ⟨v686, v689, rfl, ho0, ho1, hb⟩; refine ⟨_, rfl, ?_⟩; have HO687 := rl_ w ho0; have HO690 := rl_ w ho1; replace BK675 := A_ (kE_ (g := gb675) (o := .cells #[.slice A0_0 l0_0.length c0_0, .slice A0_1 l0_1.length c0_1] 33 (0, 0)) (by (with_reducible repeat (first | refine kA_ ?_ _ | refine kB_ ?_ | refine kC_ ?_ _)); refine blk_far ?_ NB675_677.out _; (with_reducible repeat (first | refine kA_ ?_ _ | refine kB_ ?_ | refine kC_ ?_ _)); refine blk_far ?_ NB675_677.out _; (with_reducible repeat (first | refine kA_ ?_ _ | refine kB_ ?_ | refine kC_ ?_ _)); exact BK675.out) hb); replace BK676 := A_ (kE_ (g := gb676) (o := .cells #[.slice none 0 0, .slice none 0 0] 33 (0, 0)) (by (with_reducible repeat (first | refine kA_ ?_ _ | refine kB_ ?_ | refine kC_ ?_ _)); refine blk_far ?_ NB676_677.out _; (with_reducible repeat (first | refine kA_ ?_ _ | refine kB_ ?_ | refine kC_ ?_ _)); refine blk_far ?_ NB676_677.out _; (with_reducible repeat (first | refine kA_ ?_ _ | refine kB_ ?_ | refine kC_ ?_ _)); exact BK676.out) hb); replace BK677 := A_ (kE_ (g := gb677) (o := .cells #[.slice none 0 0, .slice none 0 0] 33 (0, 0)) qp_ hb); replace HB := b1_ hb; clear hb ho0 ho1; obtain ⟨Ao29, co29, eo29⟩ := Kd.R_slice HO687.out; subst eo29; obtain ⟨hcz30_0, hcz30_1, hfz30_0, hfz30_1⟩ := c2_ BK677; obtain ⟨Ao31, co31, eo31⟩ := Kd.R_slice HO690.out; subst eo31; obtain ⟨hcz32_0, hcz32_1, hfz32_0, hfz32_1⟩ := c2_ BK676))
   refine bodyPost_ret (results_cell_row rfl _ _ gb676 33 #[.slice Ao29 t685.length co29, .slice Ao31 t688.length co31] (0, 0) _ rfl (by (with_reducible repeat (first | refine kA_ ?_ _ | refine kB_ ?_ | refine kC_ ?_ _)); refine blk_put (cs := #[.slice Ao29 t685.length co29, .slice none 0 0]) ?_ 1 _ rfl; (with_reducible repeat (first | refine kA_ ?_ _ | refine kB_ ?_ | refine kC_ ?_ _)); refine blk_put (cs := #[.slice none 0 0, .slice none 0 0]) ?_ 0 _ rfl; (with_reducible repeat (first | refine kA_ ?_ _ | refine kB_ ?_ | refine kC_ ?_ _)); refine blk_far ?_ NB676_677.out _; (with_reducible repeat (first | refine kA_ ?_ _ | refine kB_ ?_ | refine kC_ ?_ _)); refine blk_far ?_ NB676_677.out _; (with_reducible repeat (first | refine kA_ ?_ _ | refine kB_ ?_ | refine kC_ ?_ _)); exact BK676.out) Try.underlying33 rfl (by kernel_rfl)) rfl ?_
   exact ⟨_, _, qb_, (rw_ (Kd.R_mono (Kd.R_far (p := ⟨gb676, 1, none⟩) (Kd.R_far (p := ⟨gb676, 0, none⟩) (Kd.R_far (p := ⟨gb677, 1, none⟩) (Kd.R_far (p := ⟨gb677, 0, none⟩) (Kd.R_types (Kd.R_types HO687.out BK677.out (by decide)) BK676.out (by decide)) (fun _ hk => hk.1.2) (.slice Ao29 t685.length co29)) (fun _ hk => hk.1.2) (.slice Ao31 t688.length co31)) (fun _ hk => hk.2) (.slice Ao29 t685.length co29)) (fun _ hk => hk.2) (.slice Ao31 t688.length co31)) (fun _ hk => hk.1.1))), (rw_ (Kd.R_mono (Kd.R_far (p := ⟨gb676, 1, none⟩) (Kd.R_far (p := ⟨gb676, 0, none⟩) (Kd.R_far (p := ⟨gb677, 1, none⟩) (Kd.R_far (p := ⟨gb677, 0, none⟩) (Kd.R_types (Kd.R_types HO690.out BK677.out (by decide)) BK676.out (by decide)) (fun _ hk => hk.1.2) (.slice Ao29 t685.length co29)) (fun _ hk => hk.1.2) (.slice Ao31 t688.length co31)) (fun _ hk => hk.2) (.slice Ao29 t685.length co29)) (fun _ hk => hk.2) (.slice Ao31 t688.length co31)) (fun _ hk => hk.1.1))), hB_⟩
  ·rw [if_neg c18] at H
   have c18b0 : (a1 == 116) = false := beq_eq_false_iff_ne.mpr c18
   have c18b1 : (a1 != 116) = true := bne_iff_ne.mpr c18
   by_cases c33 : a1 = 83
   ·rw [if_pos c33] at H
    have c33b0 : (a1 == 83) = true := beq_iff_eq.mpr c33
    have c33b1 : (a1 != 83) = false := bne_eq_false_iff_eq.mpr c33
    clear c33
    obtain ⟨⟨t692, t695, t698⟩, A34, H⟩ := bi_ H
    try dsimp only at H
    simp only [Option.some.injEq, Prod.mk.injEq] at H
    obtain ⟨rfl, rfl⟩ := H
    go_enter Try.func70, Try.ntmps70
    go_wp2_with (first | ((with_reducible refine gB_ (N := 2) rfl ?_); refine bx_ 2 #[.slice A0_0 l0_0.length c0_0, .slice A0_1 l0_1.length c0_1] 33 ?_; intro gb675 hg w35 hbox hb; have BK675 := A_ hbox; have GW675 := gw_ w hg; have GE675 := GW675; replace HB := b1_ hb; clear hb hbox hg) | ((with_reducible refine gB_ (N := 4) rfl ?_); refine bx_ 4 #[.slice none 0 0, .slice none 0 0] 33 ?_; intro gb676 hg w36 hbox hb; have BK676 := A_ hbox; have GW676 := gw_ w hg; have GE676 := GW676; replace HB := b1_ hb; have NB675_676 := gN_ BK675 hg; have NB676_675 := gP_ BK675 hg; replace BK675 := bb_ BK675 hb; clear hb hbox hg) | ((with_reducible refine gB_ (N := 5) rfl ?_); refine bx_ 5 #[.slice none 0 0, .slice none 0 0] 33 ?_; intro gb677 hg w37 hbox hb; have BK677 := A_ hbox; have GW677 := gw_ w hg; have GE677 := GW677; replace HB := b1_ hb; have NB675_677 := gN_ BK675 hg; have NB677_675 := gP_ BK675 hg; replace BK675 := bb_ BK675 hb; have NB676_677 := gN_ BK676 hg; have NB677_676 := gP_ BK676 hg; replace BK676 := bb_ BK676 hb; clear hb hbox hg; have hnb38 := NB677_675.out; have hnc38 := NB675_677.out; have hnb39 := NB677_676.out; have hnc39 := NB676_677.out; obtain ⟨hcz40_0, hcz40_1, hfz40_0, hfz40_1⟩ := c2_ BK677; have hnb41 := NB675_676.out; have hnc41 := NB676_675.out; obtain ⟨hcz42_0, hcz42_1, hfz42_0, hfz42_1⟩ := c2_ BK675) | ((with_reducible refine gA_ (f := 116) rfl ?_); refine gL_ (some 26) Try.func116 #[.agg #[.slice A0_0 l0_0.length c0_0, .slice A0_1 l0_1.length c0_1]] rfl qa_ ?_; (with_reducible refine (Z19.calls k _ _ l0_0 _ _ l0_1 t692 t695 t698 _ (cD_ HR0_0.out hB_) HC0_0.out (cD_ HR0_1.out hB_) HC0_1.out A34.out).mono ?_); rintro e w43 ⟨v693, v696, rfl, ho0, ho1, hb⟩; refine ⟨_, rfl, ?_⟩; have HO694 := rl_ w ho0; have HO697 := rl_ w ho1; replace BK675 := A_ (kE_ (g := gb675) (o := .cells #[.slice A0_0 l0_0.length c0_0, .slice A0_1 l0_1.length c0_1] 33 (0, 0)) (by (with_reducible repeat (first | refine kA_ ?_ _ | refine kB_ ?_ | refine kC_ ?_ _)); refine blk_far ?_ NB675_677.out _; (with_reducible repeat (first | refine kA_ ?_ _ | refine kB_ ?_ | refine kC_ ?_ _)); refine blk_far ?_ NB675_677.out _; (with_reducible repeat (first | refine kA_ ?_ _ | refine kB_ ?_ | refine kC_ ?_ _)); exact BK675.out) hb); replace BK676 := A_ (kE_ (g := gb676) (o := .cells #[.slice none 0 0, .slice none 0 0] 33 (0, 0)) (by (with_reducible repeat (first | refine kA_ ?_ _ | refine kB_ ?_ | refine kC_ ?_ _)); refine blk_far ?_ NB676_677.out _; (with_reducible repeat (first | refine kA_ ?_ _ | refine kB_ ?_ | refine kC_ ?_ _)); refine blk_far ?_ NB676_677.out _; (with_reducible repeat (first | refine kA_ ?_ _ | refine kB_ ?_ | refine kC_ ?_ _)); exact BK676.out) hb); replace BK677 := A_ (kE_ (g := gb677) (o := .cells #[.slice none 0 0, .slice none 0 0] 33 (0, 0)) qp_ hb); replace HB := b1_ hb; clear hb ho0 ho1; obtain ⟨Ao44, co44, eo44⟩ := Kd.R_slice HO694.out; subst eo44; obtain ⟨hcz45_0, hcz45_1, hfz45_0, hfz45_1⟩ := c2_ BK677; obtain ⟨Ao46, co46, eo46⟩ := Kd.R_slice HO697.out; subst eo46; obtain ⟨hcz47_0, hcz47_1, hfz47_0, hfz47_1⟩ := c2_ BK676))
    refine bodyPost_ret (results_cell_row rfl _ _ gb676 33 #[.slice Ao44 t692.length co44, .slice Ao46 t695.length co46] (0, 0) _ rfl (by (with_reducible repeat (first | refine kA_ ?_ _ | refine kB_ ?_ | refine kC_ ?_ _)); refine blk_put (cs := #[.slice Ao44 t692.length co44, .slice none 0 0]) ?_ 1 _ rfl; (with_reducible repeat (first | refine kA_ ?_ _ | refine kB_ ?_ | refine kC_ ?_ _)); refine blk_put (cs := #[.slice none 0 0, .slice none 0 0]) ?_ 0 _ rfl; (with_reducible repeat (first | refine kA_ ?_ _ | refine kB_ ?_ | refine kC_ ?_ _)); refine blk_far ?_ NB676_677.out _; (with_reducible repeat (first | refine kA_ ?_ _ | refine kB_ ?_ | refine kC_ ?_ _)); refine blk_far ?_ NB676_677.out _; (with_reducible repeat (first | refine kA_ ?_ _ | refine kB_ ?_ | refine kC_ ?_ _)); exact BK676.out) Try.underlying33 rfl (by kernel_rfl)) rfl ?_
    exact ⟨_, _, qb_, (rw_ (Kd.R_mono (Kd.R_far (p := ⟨gb676, 1, none⟩) (Kd.R_far (p := ⟨gb676, 0, none⟩) (Kd.R_far (p := ⟨gb677, 1, none⟩) (Kd.R_far (p := ⟨gb677, 0, none⟩) (Kd.R_types (Kd.R_types HO694.out BK677.out (by decide)) BK676.out (by decide)) (fun _ hk => hk.1.2) (.slice Ao44 t692.length co44)) (fun _ hk => hk.1.2) (.slice Ao46 t695.length co46)) (fun _ hk => hk.2) (.slice Ao44 t692.length co44)) (fun _ hk => hk.2) (.slice Ao46 t695.length co46)) (fun _ hk => hk.1.1))), (rw_ (Kd.R_mono (Kd.R_far (p := ⟨gb676, 1, none⟩) (Kd.R_far (p := ⟨gb676, 0, none⟩) (Kd.R_far (p := ⟨gb677, 1, none⟩) (Kd.R_far (p := ⟨gb677, 0, none⟩) (Kd.R_types (Kd.R_types HO697.out BK677.out (by decide)) BK676.out (by decide)) (fun _ hk => hk.1.2) (.slice Ao44 t692.length co44)) (fun _ hk => hk.1.2) (.slice Ao46 t695.length co46)) (fun _ hk => hk.2) (.slice Ao44 t692.length co44)) (fun _ hk => hk.2) (.slice Ao46 t695.length co46)) (fun _ hk => hk.1.1))), hB_⟩
   ·rw [if_neg c33] at H
    have c33b0 : (a1 == 83) = false := beq_eq_false_iff_ne.mpr c33
    have c33b1 : (a1 != 83) = true := bne_iff_ne.mpr c33
    by_cases c48 : a1 = 115
    ·rw [if_pos c48] at H
     have c48b0 : (a1 == 115) = true := beq_iff_eq.mpr c48
     have c48b1 : (a1 != 115) = false := bne_eq_false_iff_eq.mpr c48
     clear c48
     obtain ⟨⟨t699, t702, t705⟩, A49, H⟩ := bi_ H
     try dsimp only at H
     simp only [Option.some.injEq, Prod.mk.injEq] at H
     obtain ⟨rfl, rfl⟩ := H
     go_enter Try.func70, Try.ntmps70
     go_wp2_with (first | ((with_reducible refine gB_ (N := 2) rfl ?_); refine bx_ 2 #[.slice A0_0 l0_0.length c0_0, .slice A0_1 l0_1.length c0_1] 33 ?_; intro gb675 hg w50 hbox hb; have BK675 := A_ hbox; have GW675 := gw_ w hg; have GE675 := GW675; replace HB := b1_ hb; clear hb hbox hg) | ((with_reducible refine gB_ (N := 4) rfl ?_); refine bx_ 4 #[.slice none 0 0, .slice none 0 0] 33 ?_; intro gb676 hg w51 hbox hb; have BK676 := A_ hbox; have GW676 := gw_ w hg; have GE676 := GW676; replace HB := b1_ hb; have NB675_676 := gN_ BK675 hg; have NB676_675 := gP_ BK675 hg; replace BK675 := bb_ BK675 hb; clear hb hbox hg) | ((with_reducible refine gB_ (N := 5) rfl ?_); refine bx_ 5 #[.slice none 0 0, .slice none 0 0] 33 ?_; intro gb677 hg w52 hbox hb; have BK677 := A_ hbox; have GW677 := gw_ w hg; have GE677 := GW677; replace HB := b1_ hb; have NB675_677 := gN_ BK675 hg; have NB677_675 := gP_ BK675 hg; replace BK675 := bb_ BK675 hb; have NB676_677 := gN_ BK676 hg; have NB677_676 := gP_ BK676 hg; replace BK676 := bb_ BK676 hb; clear hb hbox hg; have hnb53 := NB677_675.out; have hnc53 := NB675_677.out; have hnb54 := NB677_676.out; have hnc54 := NB676_677.out; obtain ⟨hcz55_0, hcz55_1, hfz55_0, hfz55_1⟩ := c2_ BK677; have hnb56 := NB675_676.out; have hnc56 := NB676_675.out; obtain ⟨hcz57_0, hcz57_1, hfz57_0, hfz57_1⟩ := c2_ BK675) | ((with_reducible refine gA_ (f := 117) rfl ?_); refine gL_ (some 33) Try.func117 #[.agg #[.slice A0_0 l0_0.length c0_0, .slice A0_1 l0_1.length c0_1]] rfl qa_ ?_; (with_reducible refine (Z9.calls k _ _ l0_0 _ _ l0_1 t699 t702 t705 _ (cD_ HR0_0.out hB_) HC0_0.out (cD_ HR0_1.out hB_) HC0_1.out A49.out).mono ?_); rintro e w58 ⟨v700, v703, rfl, ho0, ho1, hb⟩; refine ⟨_, rfl, ?_⟩; have HO701 := rl_ w ho0; have HO704 := rl_ w ho1; replace BK675 := A_ (kE_ (g := gb675) (o := .cells #[.slice A0_0 l0_0.length c0_0, .slice A0_1 l0_1.length c0_1] 33 (0, 0)) (by (with_reducible repeat (first | refine kA_ ?_ _ | refine kB_ ?_ | refine kC_ ?_ _)); refine blk_far ?_ NB675_677.out _; (with_reducible repeat (first | refine kA_ ?_ _ | refine kB_ ?_ | refine kC_ ?_ _)); refine blk_far ?_ NB675_677.out _; (with_reducible repeat (first | refine kA_ ?_ _ | refine kB_ ?_ | refine kC_ ?_ _)); exact BK675.out) hb); replace BK676 := A_ (kE_ (g := gb676) (o := .cells #[.slice none 0 0, .slice none 0 0] 33 (0, 0)) (by (with_reducible repeat (first | refine kA_ ?_ _ | refine kB_ ?_ | refine kC_ ?_ _)); refine blk_far ?_ NB676_677.out _; (with_reducible repeat (first | refine kA_ ?_ _ | refine kB_ ?_ | refine kC_ ?_ _)); refine blk_far ?_ NB676_677.out _; (with_reducible repeat (first | refine kA_ ?_ _ | refine kB_ ?_ | refine kC_ ?_ _)); exact BK676.out) hb); replace BK677 := A_ (kE_ (g := gb677) (o := .cells #[.slice none 0 0, .slice none 0 0] 33 (0, 0)) qp_ hb); replace HB := b1_ hb; clear hb ho0 ho1; obtain ⟨Ao59, co59, eo59⟩ := Kd.R_slice HO701.out; subst eo59; obtain ⟨hcz60_0, hcz60_1, hfz60_0, hfz60_1⟩ := c2_ BK677; obtain ⟨Ao61, co61, eo61⟩ := Kd.R_slice HO704.out; subst eo61; obtain ⟨hcz62_0, hcz62_1, hfz62_0, hfz62_1⟩ := c2_ BK676))
     refine bodyPost_ret (results_cell_row rfl _ _ gb676 33 #[.slice Ao59 t699.length co59, .slice Ao61 t702.length co61] (0, 0) _ rfl (by (with_reducible repeat (first | refine kA_ ?_ _ | refine kB_ ?_ | refine kC_ ?_ _)); refine blk_put (cs := #[.slice Ao59 t699.length co59, .slice none 0 0]) ?_ 1 _ rfl; (with_reducible repeat (first | refine kA_ ?_ _ | refine kB_ ?_ | refine kC_ ?_ _)); refine blk_put (cs := #[.slice none 0 0, .slice none 0 0]) ?_ 0 _ rfl; (with_reducible repeat (first | refine kA_ ?_ _ | refine kB_ ?_ | refine kC_ ?_ _)); refine blk_far ?_ NB676_677.out _; (with_reducible repeat (first | refine kA_ ?_ _ | refine kB_ ?_ | refine kC_ ?_ _)); refine blk_far ?_ NB676_677.out _; (with_reducible repeat (first | refine kA_ ?_ _ | refine kB_ ?_ | refine kC_ ?_ _)); exact BK676.out) Try.underlying33 rfl (by kernel_rfl)) rfl ?_
     exact ⟨_, _, qb_, (rw_ (Kd.R_mono (Kd.R_far (p := ⟨gb676, 1, none⟩) (Kd.R_far (p := ⟨gb676, 0, none⟩) (Kd.R_far (p := ⟨gb677, 1, none⟩) (Kd.R_far (p := ⟨gb677, 0, none⟩) (Kd.R_types (Kd.R_types HO701.out BK677.out (by decide)) BK676.out (by decide)) (fun _ hk => hk.1.2) (.slice Ao59 t699.length co59)) (fun _ hk => hk.1.2) (.slice Ao61 t702.length co61)) (fun _ hk => hk.2) (.slice Ao59 t699.length co59)) (fun _ hk => hk.2) (.slice Ao61 t702.length co61)) (fun _ hk => hk.1.1))), (rw_ (Kd.R_mono (Kd.R_far (p := ⟨gb676, 1, none⟩) (Kd.R_far (p := ⟨gb676, 0, none⟩) (Kd.R_far (p := ⟨gb677, 1, none⟩) (Kd.R_far (p := ⟨gb677, 0, none⟩) (Kd.R_types (Kd.R_types HO704.out BK677.out (by decide)) BK676.out (by decide)) (fun _ hk => hk.1.2) (.slice Ao59 t699.length co59)) (fun _ hk => hk.1.2) (.slice Ao61 t702.length co61)) (fun _ hk => hk.2) (.slice Ao59 t699.length co59)) (fun _ hk => hk.2) (.slice Ao61 t702.length co61)) (fun _ hk => hk.1.1))), hB_⟩
    ·rw [if_neg c48] at H
     have c48b0 : (a1 == 115) = false := beq_eq_false_iff_ne.mpr c48
     have c48b1 : (a1 != 115) = true := bne_iff_ne.mpr c48
     simp only [Option.some.injEq, Prod.mk.injEq] at H
     obtain ⟨rfl, rfl⟩ := H
     go_enter Try.func70, Try.ntmps70
     go_wp2_with (first | ((with_reducible refine gB_ (N := 2) rfl ?_); refine bx_ 2 #[.slice A0_0 l0_0.length c0_0, .slice A0_1 l0_1.length c0_1] 33 ?_; intro gb675 hg w63 hbox hb; have BK675 := A_ hbox; have GW675 := gw_ w hg; have GE675 := GW675; replace HB := b1_ hb; clear hb hbox hg) | ((with_reducible refine gB_ (N := 4) rfl ?_); refine bx_ 4 #[.slice none 0 0, .slice none 0 0] 33 ?_; intro gb676 hg w64 hbox hb; have BK676 := A_ hbox; have GW676 := gw_ w hg; have GE676 := GW676; replace HB := b1_ hb; have NB675_676 := gN_ BK675 hg; have NB676_675 := gP_ BK675 hg; replace BK675 := bb_ BK675 hb; clear hb hbox hg) | ((with_reducible refine gB_ (N := 5) rfl ?_); refine bx_ 5 #[.slice none 0 0, .slice none 0 0] 33 ?_; intro gb677 hg w65 hbox hb; have BK677 := A_ hbox; have GW677 := gw_ w hg; have GE677 := GW677; replace HB := b1_ hb; have NB675_677 := gN_ BK675 hg; have NB677_675 := gP_ BK675 hg; replace BK675 := bb_ BK675 hb; have NB676_677 := gN_ BK676 hg; have NB677_676 := gP_ BK676 hg; replace BK676 := bb_ BK676 hb; clear hb hbox hg; have hnb66 := NB677_675.out; have hnc66 := NB675_677.out; have hnb67 := NB677_676.out; have hnc67 := NB676_677.out; obtain ⟨hcz68_0, hcz68_1, hfz68_0, hfz68_1⟩ := c2_ BK677; have hnb69 := NB676_675.out; have hnc69 := NB675_676.out; obtain ⟨hcz70_0, hcz70_1, hfz70_0, hfz70_1⟩ := c2_ BK676))
     refine bodyPost_ret (results_cell_row rfl _ _ gb676 33 #[.slice none 0 0, .slice none 0 0] (0, 0) _ rfl (by (with_reducible repeat (first | refine kA_ ?_ _ | refine kB_ ?_ | refine kC_ ?_ _)); refine blk_put (cs := #[.slice none 0 0, .slice none 0 0]) ?_ 1 _ rfl; (with_reducible repeat (first | refine kA_ ?_ _ | refine kB_ ?_ | refine kC_ ?_ _)); refine blk_put (cs := #[.slice none 0 0, .slice none 0 0]) ?_ 0 _ rfl; (with_reducible repeat (first | refine kA_ ?_ _ | refine kB_ ?_ | refine kC_ ?_ _)); refine blk_far ?_ NB676_677.out _; (with_reducible repeat (first | refine kA_ ?_ _ | refine kB_ ?_ | refine kC_ ?_ _)); refine blk_far ?_ NB676_677.out _; (with_reducible repeat (first | refine kA_ ?_ _ | refine kB_ ?_ | refine kC_ ?_ _)); exact BK676.out) Try.underlying33 rfl (by kernel_rfl)) rfl ?_
     exact ⟨_, _, qb_, by first | exact Kd.R_nil _ _ _ _ _ | exact Kd.N_nil _ _ _ _ _ | exact Kd.V_nil _ _ _ _ _ | exact Kd.Q_nil _ _ _ _ _ | exact Kd.S_nil _ _ _ _ _, by first | exact Kd.R_nil _ _ _ _ _ | exact Kd.N_nil _ _ _ _ _ | exact Kd.V_nil _ _ _ _ _ | exact Kd.Q_nil _ _ _ _ _ | exact Kd.S_nil _ _ _ _ _, hB_⟩
end Go.Proofs.Ytoijcallajegfaa.A
end
section
namespace Go.Proofs.Ytoijcallajegfaa.A
open Go.RowKit Go.Proofs.YtoijcallajegfaaW.PrintWords Go.Proofs.YtoijcallajegfaaW.PrintLast Go.Proofs.YtoijcallajegfaaW.PrintMore
attribute [local go_sem] max2_int min2_int max_two min_two max_three min_three max_four min_four
set_option linter.unusedVariables false
set_option linter.unusedSimpArgs false
mutual
def Z47.j0 : Nat → ByteArray → Bool → List Int → List Int → Option (List Int × List Int × Bool)
 | 0, _, _, _, _ => none
 | k + 1, x1, x15, x707000, x707001 => if x15 = true then (some (([] : List Int), ([] : List Int), false)) else ((Z20.f x707000 x707001).bind fun bt710 => (Z47.l0 k x1 0 bt710.1 bt710.2))
def Z47.l0 : Nat → ByteArray → Int → List Int → List Int → Option (List Int × List Int × Bool)
 | 0, _, _, _, _ => none
 | k + 1, x1, x7, x717000, x717001 => if x7 < (x1.size : Int) then (if 0 ≤ x7 then ((Z10.f k x717000 x717001 (bt x1 x7)).bind fun bt717 => (Z47.l0 k x1 (wrap64 (x7 + 1)) bt717.1 bt717.2)) else (none)) else (some (x717000, x717001, true))
end
def Z47.f (k : Nat) (l0_0 : List Int) (l0_1 : List Int) (a1 : ByteArray) : Option (List Int × List Int × Bool) := (Z31.f k l0_0 l0_1).bind fun t708 => (if t708 = true then ((Z57.f k a1).bind fun t709 => (Z47.j0 k a1 (!t709) l0_0 l0_1)) else (Z47.j0 k a1 true l0_0 l0_1))
theorem Z47.mono_l : ∀ k, (∀ y0 y1 y2 y3, LeO (Z47.j0 k y0 y1 y2 y3) (Z47.j0 (k + 1) y0 y1 y2 y3)) ∧ (∀ y0 y1 y2 y3, LeO (Z47.l0 k y0 y1 y2 y3) (Z47.l0 (k + 1) y0 y1 y2 y3))
 | 0 => ⟨fun _ _ _ _ r h => by simp [Z47.j0] at h, fun _ _ _ _ r h => by simp [Z47.l0] at h⟩
 | k + 1 => by
  obtain ⟨ih0, ih1⟩ := Z47.mono_l k
  refine ⟨?_, ?_⟩
  ·intro y0 y1 y2 y3
   unfold Z47.j0
   repeat' first|exact ih0 _ _ _ _|exact ih1 _ _ _ _|exact Z31.mono _ _ _|exact Z57.mono _ _|exact Z10.mono _ _ _ _|exact lo_|refine LeO.ite ?_ ?_|refine LeO.bind ?_ (fun _ => ?_)
  ·intro y0 y1 y2 y3
   unfold Z47.l0
   repeat' first|exact ih0 _ _ _ _|exact ih1 _ _ _ _|exact Z31.mono _ _ _|exact Z57.mono _ _|exact Z10.mono _ _ _ _|exact lo_|refine LeO.ite ?_ ?_|refine LeO.bind ?_ (fun _ => ?_)
theorem Z47.mono : ∀ a0 a1 a2 k, LeO (Z47.f k a0 a1 a2) (Z47.f (k + 1) a0 a1 a2) := by
 intro a0 a1 a2 k
 obtain ⟨ih0, ih1⟩ := Z47.mono_l k
 unfold Z47.f
 repeat' first|exact ih0 _ _ _ _|exact ih1 _ _ _ _|exact Z31.mono _ _ _|exact Z57.mono _ _|exact Z10.mono _ _ _ _|exact lo_|refine LeO.ite ?_ ?_|refine LeO.bind ?_ (fun _ => ?_)
set_option maxHeartbeats 8000000 in
set_option maxRecDepth 100000 in
theorem Z47.calls (k : Nat) (A0_0 : Option Addr) (c0_0 : Nat) (l0_0 : List Int) (A0_1 : Option Addr) (c0_1 : Nat) (l0_1 : List Int) (a1 : ByteArray) (r1 : List Int) (r2 : List Int) (r3 : Bool) (w : World) (hr0_0 : Kd.C (Kd.int .i64) w A0_0 l0_0.length l0_0) (hc0_0 : l0_0.length ≤ c0_0) (hr0_1 : Kd.C (Kd.int .i64) w A0_1 l0_1.length l0_1) (hc0_1 : l0_1.length ≤ c0_1) (h : Z47.f k l0_0 l0_1 a1 = some (r1, r2, r3)) :
  Calls Try.prog 21 #[.agg #[.slice A0_0 l0_0.length c0_0, .slice A0_1 l0_1.length c0_1], .string a1] w fun e w' => ∃ v0_ v1_ : Value, e = .returned (.tuple #[.agg #[v0_, v1_], .bool r3]) ∧ Kd.R (Kd.int .i64) 3 w' w.heap.size (fun k_ => some k_ ≠ (v1_ : Value).ownBlock) v0_ r1 ∧ Kd.R (Kd.int .i64) 3 w' w.heap.size (fun k_ => some k_ ≠ (v0_ : Value).ownBlock) v1_ r2 ∧ Below w.heap.size w w' := by
 have hu33 := Try.underlying33
 have HR0_0 := A_ hr0_0
 have HC0_0 := A_ hc0_0
 clear hr0_0 hc0_0
 have HR0_1 := A_ hr0_1
 have HC0_1 := A_ hc0_1
 clear hr0_1 hc0_1
 have HB := A_ (Below.refl w.heap.size w)
 have H := h
 unfold Z47.f at H
 clear h
 have HC3 := A_ H
 clear H
 go_enter Try.func21, Try.ntmps21
 go_upto_region 1 with (first | ((with_reducible refine gB_ (N := 2) rfl ?_); refine bx_ 2 #[.slice A0_0 l0_0.length c0_0, .slice A0_1 l0_1.length c0_1] 33 ?_; intro gb706 hg w4 hbox hb; have BK706 := A_ hbox; have GW706 := gw_ w hg; have GE706 := GW706; replace HB := b1_ hb; clear hb hbox hg) | ((with_reducible refine gB_ (N := 4) rfl ?_); refine bx_ 4 #[.slice none 0 0, .slice none 0 0] 33 ?_; intro gb707 hg w5 hbox hb; have BK707 := A_ hbox; have GW707 := gw_ w hg; have GE707 := GW707; replace HB := b1_ hb; have NB706_707 := gN_ BK706 hg; have NB707_706 := gP_ BK706 hg; replace BK706 := bb_ BK706 hb; clear hb hbox hg))
 (try simp only [Act.put, sA_, sB_, sC_])
 go_cut [15] (fun v15 wc => ∃ (kq : Nat) (x15_2 : Bool), v15 = .bool x15_2 ∧ Aside0 (Z47.j0 kq a1 x15_2 l0_0 l0_1 = some (r1, r2, r3)) ∧ Aside0 (kq ≤ k) ∧ Aside0 (wc.heap[gb706]? = some (.cells #[(.slice A0_0 l0_0.length c0_0), (.slice A0_1 l0_1.length c0_1)] 33 (0, 0))) ∧ Aside0 (wc.heap[gb707]? = some (.cells #[(.slice none 0 0), (.slice none 0 0)] 33 (0, 0))) ∧ Aside0 (Below w.heap.size w wc))
 case first =>
  have H := HC3.out
  clear HC3
  obtain ⟨t708, A6, H⟩ := bi_ H
  by_cases c7 : t708 = true
  ·subst c7
   rw [if_pos rfl] at H
   obtain ⟨t709, A8, H⟩ := bi_ H
   have H' := A_ H
   clear H
   have hnb9 := NB706_707.out
   have hnc9 := NB707_706.out
   obtain ⟨hcz10_0, hcz10_1, hfz10_0, hfz10_1⟩ := c2_ BK706
   go_wp2_with (first | ((with_reducible refine gA_ (f := 19) rfl ?_); refine gL_ (some 9) Try.func19 #[.agg #[.slice A0_0 l0_0.length c0_0, .slice A0_1 l0_1.length c0_1]] rfl qa_ ?_; (with_reducible refine (Z31.calls k _ _ l0_0 _ _ l0_1 true _ (cb_ HR0_0) HC0_0.out (cb_ HR0_1) HC0_1.out A6.out).mono ?_); rintro e w11 ⟨rfl, hb⟩; refine ⟨_, rfl, ?_⟩; replace BK706 := bb_ BK706 hb; replace BK707 := bb_ BK707 hb; replace HB := b1_ hb; clear hb) | (go_at_call 68; (with_reducible refine (Z57.calls k a1 t709 _ A8.out).mono ?_); rintro e w12 ⟨rfl, hb⟩; replace BK706 := bb_ BK706 hb; replace BK707 := bb_ BK707 hb; replace HB := b1_ hb; clear hb))
   go_meet
   case rel => exact ⟨_, (!t709), qc_, H', ⟨qd_⟩, ⟨(kk_ BK706)⟩, ⟨(kk_ BK707)⟩, ⟨hB_⟩⟩
  ·replace c7 := Bool.eq_false_iff.mpr c7
   subst c7
   have H1 : (Z47.j0 k a1 true l0_0 l0_1) = some (r1, r2, r3) := by rw [if_neg (show ¬ (false = true) by decide)] at H; exact H
   clear H
   have H := H1
   clear H1
   have H' := A_ H
   clear H
   have hnb13 := NB706_707.out
   have hnc13 := NB707_706.out
   obtain ⟨hcz14_0, hcz14_1, hfz14_0, hfz14_1⟩ := c2_ BK706
   go_wp2_with (first | ((with_reducible refine gA_ (f := 19) rfl ?_); refine gL_ (some 9) Try.func19 #[.agg #[.slice A0_0 l0_0.length c0_0, .slice A0_1 l0_1.length c0_1]] rfl qa_ ?_; (with_reducible refine (Z31.calls k _ _ l0_0 _ _ l0_1 false _ (cb_ HR0_0) HC0_0.out (cb_ HR0_1) HC0_1.out A6.out).mono ?_); rintro e w15 ⟨rfl, hb⟩; refine ⟨_, rfl, ?_⟩; replace BK706 := bb_ BK706 hb; replace BK707 := bb_ BK707 hb; replace HB := b1_ hb; clear hb))
   go_meet
   case rel => exact ⟨_, (true), qc_, H', ⟨qd_⟩, ⟨(kk_ BK706)⟩, ⟨(kk_ BK707)⟩, ⟨hB_⟩⟩
 case rest =>
  clear HC3
  obtain ⟨kq, x15_2, rfl, HA, HJ2, BK706, BK707, HB⟩ := hcut
  cases kq with
  | zero => exact absurd HA.out (by simp [Z47.j0])
  | succ kj2 =>
   have H := HA.out
   clear HA
   simp only [Z47.j0] at H
   by_cases c16 : x15_2 = true
   ·subst c16
    rw [if_pos rfl] at H
    simp only [Option.some.injEq, Prod.mk.injEq] at H
    obtain ⟨rfl, rfl, rfl⟩ := H
    have hnb17 := NB707_706.out
    have hnc17 := NB706_707.out
    obtain ⟨hcz18_0, hcz18_1, hfz18_0, hfz18_1⟩ := c2_ BK707
    go_wp2
    refine bodyPost_ret (results_ct rfl _ _ gb707 33 #[.slice none 0 0, .slice none 0 0] (0, 0) _ rfl qp_ Try.underlying33 rfl (by kernel_rfl)) rfl ?_
    exact ⟨_, _, qb_, by first | exact Kd.R_nil _ _ _ _ _ | exact Kd.N_nil _ _ _ _ _ | exact Kd.V_nil _ _ _ _ _ | exact Kd.Q_nil _ _ _ _ _ | exact Kd.S_nil _ _ _ _ _, by first | exact Kd.R_nil _ _ _ _ _ | exact Kd.N_nil _ _ _ _ _ | exact Kd.V_nil _ _ _ _ _ | exact Kd.Q_nil _ _ _ _ _ | exact Kd.S_nil _ _ _ _ _, hB_⟩
   ·replace c16 := Bool.eq_false_iff.mpr c16
    subst c16
    have H1 : ((Z20.f l0_0 l0_1).bind fun bt710 => (Z47.l0 kj2 a1 0 bt710.1 bt710.2)) = some (r1, r2, r3) := by rw [if_neg (show ¬ (false = true) by decide)] at H; exact H
    clear H
    have H := H1
    clear H1
    obtain ⟨⟨t710, t713⟩, A19, H⟩ := bi_ H
    try dsimp only at H
    have H' := A_ H
    clear H
    have hnb20 := NB706_707.out
    have hnc20 := NB707_706.out
    obtain ⟨hcz21_0, hcz21_1, hfz21_0, hfz21_1⟩ := c2_ BK706
    go_wp2_with (first | ((with_reducible refine gA_ (f := 69) rfl ?_); refine gL_ (some 18) Try.func69 #[.agg #[.slice A0_0 l0_0.length c0_0, .slice A0_1 l0_1.length c0_1]] rfl qa_ ?_; (with_reducible refine (Z20.calls _ _ l0_0 _ _ l0_1 t710 t713 _ (cb_ HR0_0) HC0_0.out (cb_ HR0_1) HC0_1.out A19.out).mono ?_); rintro e w22 ⟨v711, v714, rfl, ho0, ho1, hb⟩; refine ⟨_, rfl, ?_⟩; have HO712 := rl_ w ho0; have HO715 := rl_ w ho1; replace BK706 := bb_ BK706 hb; replace BK707 := bb_ BK707 hb; replace HB := b1_ hb; clear hb ho0 ho1) | ((with_reducible refine gB_ (N := 6) rfl ?_); refine bx_ 6 #[.slice none 0 0, .slice none 0 0] 33 ?_; intro gb716 hg w23 hbox hb; replace HO712 := rb_ HO712 hb; replace HO715 := rb_ HO715 hb; have BK716 := A_ hbox; have GW716 := gw_ w hg; have GE716 := GW716; replace HB := b1_ hb; have NB706_716 := gN_ BK706 hg; have NB716_706 := gP_ BK706 hg; replace BK706 := bb_ BK706 hb; have NB707_716 := gN_ BK707 hg; have NB716_707 := gP_ BK707 hg; replace BK707 := bb_ BK707 hb; clear hb hbox hg; obtain ⟨Ao24, co24, eo24⟩ := Kd.R_slice HO712.out; subst eo24; have hnb25 := NB716_706.out; have hnc25 := NB706_716.out; have hnb26 := NB716_707.out; have hnc26 := NB707_716.out; obtain ⟨hcz27_0, hcz27_1, hfz27_0, hfz27_1⟩ := c2_ BK716; obtain ⟨Ao28, co28, eo28⟩ := Kd.R_slice HO715.out; subst eo28))
    go_loopg [7] kj2 (fun kq v7 w' => ∃ (x7_2 : Int) (x717000_2 : List Int) (x717001_2 : List Int) (u717000 : Value) (u717001 : Value), v7 = .int .i64 x7_2 ∧ Aside0 (Z47.l0 kq a1 x7_2 x717000_2 x717001_2 = some (r1, r2, r3)) ∧ Aside0 (kq ≤ kj2) ∧ Aside0 (Kd.R (Kd.int .i64) 3 w' w.heap.size (fun k_ => some k_ ≠ (u717001 : Value).ownBlock) u717000 x717000_2) ∧ Aside0 (Kd.R (Kd.int .i64) 3 w' w.heap.size (fun k_ => some k_ ≠ (u717000 : Value).ownBlock) u717001 x717001_2) ∧ Aside0 (w'.heap[gb706]? = some (.cells #[(.slice A0_0 l0_0.length c0_0), (.slice A0_1 l0_1.length c0_1)] 33 (0, 0))) ∧ Aside0 (w'.heap[gb707]? = some (.cells #[(.slice none 0 0), (.slice none 0 0)] 33 (0, 0))) ∧ Aside0 (w'.heap[gb716]? = some (.cells #[u717000, u717001] 33 (0, 0))) ∧ Aside0 (Below w.heap.size w w'))
    case atStart => exact ⟨(0), (t710), (t713), (.slice Ao24 t710.length co24), (.slice Ao28 t713.length co28), qc_, H', ⟨nA_ _⟩, ⟨(rw_ (fa_ HO712 BK716))⟩, ⟨(rw_ (fa_ HO715 BK716))⟩, ⟨by (with_reducible repeat (first | refine kA_ ?_ _ | refine kB_ ?_ | refine kC_ ?_ _)); refine blk_far ?_ NB706_716.out _; (with_reducible repeat (first | refine kA_ ?_ _ | refine kB_ ?_ | refine kC_ ?_ _)); refine blk_far ?_ NB706_716.out _; (with_reducible repeat (first | refine kA_ ?_ _ | refine kB_ ?_ | refine kC_ ?_ _)); exact BK706.out⟩, ⟨by (with_reducible repeat (first | refine kA_ ?_ _ | refine kB_ ?_ | refine kC_ ?_ _)); refine blk_far ?_ NB707_716.out _; (with_reducible repeat (first | refine kA_ ?_ _ | refine kB_ ?_ | refine kC_ ?_ _)); refine blk_far ?_ NB707_716.out _; (with_reducible repeat (first | refine kA_ ?_ _ | refine kB_ ?_ | refine kC_ ?_ _)); exact BK707.out⟩, ⟨qp_⟩, ⟨hB_⟩⟩
    case round =>
     clear H'
     obtain ⟨x7_2, x717000_2, x717001_2, u717000, u717001, rfl, HA, HK2, HO_717000, HO_717001, BK706, BK707, BK716, HB⟩ := hrel
     cases gk with
     | zero => exact absurd HA.out (by simp [Z47.l0])
     | succ k2 =>
      have H := HA.out
      clear HA
      simp only [Z47.l0] at H
      by_cases c29 : x7_2 < (a1.size : Int)
      ·rw [if_pos c29] at H
       have c29b0 := oC_ c29
       clear c29
       have c30 := cp_ H
       replace H := ca_ H
       have c30b0 := oC_ c30
       clear c30
       obtain ⟨⟨t717, t720⟩, A32, H⟩ := bi_ H
       try dsimp only at H
       have H' := A_ H
       clear H
       try go_wp2
       replace HO_717000 := A_ (rC_ HO_717000.out)
       replace HO_717001 := A_ (rC_ HO_717001.out)
       replace BK706 := A_ (kB_ BK706.out)
       replace BK707 := A_ (kB_ BK707.out)
       replace BK716 := A_ (kB_ BK716.out)
       replace HB := A_ (bC_ HB.out)
       have p31 : 0 ≤ (x7_2 : Int) := oB_ qe_
       have q31 : x7_2 < (a1.size : Int) := oB_ qe_
       have hx31 := bt_at a1 x7_2
       replace p31 := eq_true p31
       replace q31 := eq_true q31
       obtain ⟨Ao34, co34, eo34⟩ := Kd.R_slice HO_717000.out
       (first | subst eo34 | (injection eo34 with f1_ f2_ f3_; have f4_ := f1_.symm; have f5_ := f3_.symm; clear f1_ f2_ f3_; subst f4_; subst f5_))
       obtain ⟨Ao35, co35, eo35⟩ := Kd.R_slice HO_717001.out
       (first | subst eo35 | (injection eo35 with f1_ f2_ f3_; have f4_ := f1_.symm; have f5_ := f3_.symm; clear f1_ f2_ f3_; subst f4_; subst f5_))
       refine start_ (n := 6) (S := fun w' => w'.cell? ⟨gb716, 0, none⟩ = some (.slice Ao34 x717000_2.length co34) ∧ w'.cell? ⟨gb716, 1, none⟩ = some (.slice Ao35 x717001_2.length co35)) (ds := [5]) (bl_ 6 0) (by kernel_rfl) rfl (by kernel_rfl) ⟨cz0_ BK716, cz1_ BK716⟩ (fun hHeld => ?_)
       generalize wr.drew = w33 at HO_717000 HO_717001 BK706 BK707 BK716 HB hHeld ⊢
       refine pure_ (i := 1) (N := some 26) (v := ?_) (a' := ?_) (bl_ 6 2) rfl rfl (by kernel_rfl) (fun _ _ _ h => h) (Or.inl ⟨by rfl, ?_⟩) ?_ ?_
       rotate_left
       ·intro w'
        go_simp
        with_reducible rfl
       rotate_left
       ·simp only [Act.put, sA_, sB_, sC_, i64_w, i32_w]
        rfl
       refine pure_ (i := 2) (N := some 27) (v := ?_) (a' := ?_) (bl_ 6 6) rfl rfl (by kernel_rfl) (fun _ _ _ h => h) (Or.inl ⟨by rfl, ?_⟩) ?_ ?_
       rotate_left
       ·intro w'
        go_simp
        with_reducible rfl
       rotate_left
       ·simp only [Act.put, sA_, sB_, sC_, i64_w, i32_w]
        rfl
       refine take_ (i := 0) (N := some 25) (v := ?_) (a' := ?_) (bl_ 6 7) rfl rfl (by kernel_rfl) (fun _ _ _ h => h) (Or.inl ⟨by rfl, ?_⟩) hHeld ?_ ?_
       rotate_left
       ·rintro w' ⟨s0, s1⟩
        go_simp
        with_reducible rfl
       rotate_left
       ·simp only [Act.put, sA_, sB_, sC_, i64_w, i32_w]
        rfl
       refine take_ (i := 3) (N := some 28) (v := ?_) (a' := ?_) (bl_ 6 15) rfl rfl (by kernel_rfl) (fun _ _ _ h => h) (Or.inl ⟨by rfl, ?_⟩) hHeld ?_ ?_
       rotate_left
       ·rintro w' ⟨s0, s1⟩
        go_simp
        with_reducible rfl
       rotate_left
       ·simp only [Act.put, sA_, sB_, sC_, i64_w, i32_w]
        rfl
       refine one_ (i := 4) (N := some 29) (bl_ 6 31) rfl rfl (by kernel_rfl) (by decide) (fun K hK => ?_)
       refine gO_ Try.func70 #[.agg #[.slice Ao34 x717000_2.length co34, .slice Ao35 x717001_2.length co35], .int .u8 (bt a1 x7_2)] (by rfl) rfl rfl qa_ ?_
       with_reducible refine (Z10.calls k2 _ _ x717000_2 _ _ x717001_2 (bt a1 x7_2) t717 t720 _ (cr_ HO_717000) ((Kd.R_reads' HO_717000.out).2.1) (cr_ HO_717001) ((Kd.R_reads' HO_717001.out).2.1) A32.out).mono ?_
       rintro e w36 ⟨v718, v721, rfl, ho0, ho1, hb⟩
       refine ⟨_, rfl, ?_⟩
       have HO719 := A_ (rE_ (Kd.R_new' (Kd.R_new' ho0 (Kd.R_lt (rr_ HO_717000))) (Kd.R_lt (rr_ HO_717001))) (bF_ hB_))
       have HO722 := A_ (rE_ (Kd.R_new' (Kd.R_new' ho1 (Kd.R_lt (rr_ HO_717000))) (Kd.R_lt (rr_ HO_717001))) (bF_ hB_))
       replace HO_717000 := A_ (Kd.R_mono (Kd.R_told (Kd.R_told (Kd.R_old (rr_ HO_717000) hb) (Kd.R_base ho0)) (Kd.R_base ho1)) (fun _ h_ => h_.1))
       replace HO_717001 := A_ (Kd.R_mono (Kd.R_told (Kd.R_told (Kd.R_old (rr_ HO_717001) hb) (Kd.R_base ho0)) (Kd.R_base ho1)) (fun _ h_ => h_.1))
       replace BK706 := bb_ BK706 hb
       replace BK707 := bb_ BK707 hb
       replace BK716 := bb_ BK716 hb
       replace HB := b1_ hb
       clear hb ho0 ho1
       obtain ⟨Ao37, co37, eo37⟩ := Kd.R_slice HO719.out
       (first | subst eo37 | (injection eo37 with f1_ f2_ f3_; have f4_ := f1_.symm; have f5_ := f3_.symm; clear f1_ f2_ f3_; subst f4_; subst f5_))
       obtain ⟨Ao39, co39, eo39⟩ := Kd.R_slice HO722.out
       (first | subst eo39 | (injection eo39 with f1_ f2_ f3_; have f4_ := f1_.symm; have f5_ := f3_.symm; clear f1_ f2_ f3_; subst f4_; subst f5_))
       refine hK.out _ _ ⟨cz0_ BK716, cz1_ BK716⟩ (fun hHeld => ?_)
       clear hK K
       refine no_ (some 29) ?_
       refine last_ (i := 5) (N := none) (bl_ 6 63) rfl rfl (by kernel_rfl) (by decide) (fun K hK => ?_)
       have hs38 : w36.cell? ⟨gb716, 0, none⟩ = some (.slice Ao34 x717000_2.length co34) := cz0_ BK716
       have hfs38 := kD_ BK716.out 0
       have hns38_0 := NB706_716.out
       have hns38_1 := NB707_716.out
       have hms38_0 := NB716_706.out
       have hms38_1 := NB716_707.out
       have hs40 : w36.cell? ⟨gb716, 1, none⟩ = some (.slice Ao35 x717001_2.length co35) := cz1_ BK716
       have hfs40 := kD_ BK716.out 1
       have hns40_0 := NB706_716.out
       have hns40_1 := NB707_716.out
       have hms40_0 := NB716_706.out
       have hms40_1 := NB716_707.out
       refine skip_ (w1 := ?_) (by rfl) rfl ?_ ?_
       rotate_left
       ·go_simp
        rfl
       refine hK.out _ _ ?_
       clear hK K
       refine done_ (by kernel_rfl) ?_
       try go_wp2
       go_roundg k2
       case measure => have := HJ2.out; have := HK2.out; omega
       case rel => exact ⟨(wrap64 (x7_2 + 1)), (t717), (t720), (.slice Ao37 t717.length co37), (.slice Ao39 t720.length co39), qc_, H', ⟨by have := HJ2.out; have := HK2.out; omega⟩, ⟨(rw_ (Kd.R_mono (fa_ HO719 BK716) (fun _ hk => hk.1.1)))⟩, ⟨(rw_ (Kd.R_mono (fa_ HO722 BK716) (fun _ hk => hk.1.1)))⟩, ⟨by (with_reducible repeat (first | refine kA_ ?_ _ | refine kB_ ?_ | refine kC_ ?_ _)); refine blk_far ?_ NB706_716.out _; (with_reducible repeat (first | refine kA_ ?_ _ | refine kB_ ?_ | refine kC_ ?_ _)); refine blk_far ?_ NB706_716.out _; (with_reducible repeat (first | refine kA_ ?_ _ | refine kB_ ?_ | refine kC_ ?_ _)); exact BK706.out⟩, ⟨by (with_reducible repeat (first | refine kA_ ?_ _ | refine kB_ ?_ | refine kC_ ?_ _)); refine blk_far ?_ NB707_716.out _; (with_reducible repeat (first | refine kA_ ?_ _ | refine kB_ ?_ | refine kC_ ?_ _)); refine blk_far ?_ NB707_716.out _; (with_reducible repeat (first | refine kA_ ?_ _ | refine kB_ ?_ | refine kC_ ?_ _)); exact BK707.out⟩, ⟨qp_⟩, ⟨hB_⟩⟩
      ·rw [if_neg c29] at H
       have c29b0 := oD_ c29
       clear c29
       simp only [Option.some.injEq, Prod.mk.injEq] at H
       obtain ⟨rfl, rfl, rfl⟩ := H
       have hnb41 := NB716_706.out
       have hnc41 := NB706_716.out
       have hnb42 := NB716_707.out
       have hnc42 := NB707_716.out
       obtain ⟨hcz43_0, hcz43_1, hfz43_0, hfz43_1⟩ := c2_ BK716
       obtain ⟨Ao44, co44, eo44⟩ := Kd.R_slice HO_717000.out
       subst eo44
       have hnb45 := NB707_706.out
       have hnc45 := NB706_707.out
       obtain ⟨hcz46_0, hcz46_1, hfz46_0, hfz46_1⟩ := c2_ BK707
       obtain ⟨Ao47, co47, eo47⟩ := Kd.R_slice HO_717001.out
       subst eo47
       go_wp2
       refine bodyPost_ret (results_ct rfl _ _ gb707 33 #[.slice Ao44 x717000_2.length co44, .slice Ao47 x717001_2.length co47] (0, 0) _ rfl qp_ Try.underlying33 rfl (by kernel_rfl)) rfl ?_
       exact ⟨_, _, qb_, (rw_ (fa_ HO_717000 BK707)), (rw_ (fa_ HO_717001 BK707)), hB_⟩
end Go.Proofs.Ytoijcallajegfaa.A
end
section
namespace Go.Proofs.Ytoijcallajegfaa.A
open Go.RowKit Go.Proofs.YtoijcallajegfaaW.PrintWords Go.Proofs.YtoijcallajegfaaW.PrintLast Go.Proofs.YtoijcallajegfaaW.PrintMore
attribute [local go_sem] max2_int min2_int max_two min_two max_three min_three max_four min_four
set_option linter.unusedVariables false
set_option linter.unusedSimpArgs false
def Z64.l0 : Nat → List Int → Int → Int → Int → Int → Option (List Int × Int × Int)
 | 0, _, _, _, _, _ => none
 | k + 1, b, p, h, n, i => if i < n then ((Z50.f b p h).bind fun t => (Z64.l0 k b t.2.1 t.2.2 n (wrap64 (i + 1)))) else some (b, p, h)
def Z64.f (k : Nat) (l0 : List Int) (a1 : Int) : Option (List Int × Int × Int) := (Z61.f k l0).bind fun t => (Z64.l0 k t.1 t.2.1 t.2.2 a1 0)
theorem Z64.mono_l : ∀ k, (∀ y0 y1 y2 y3 y4, LeO (Z64.l0 k y0 y1 y2 y3 y4) (Z64.l0 (k + 1) y0 y1 y2 y3 y4))
 | 0 => fun _ _ _ _ _ r h => by simp [Z64.l0] at h
 | k + 1 => by
  have ih0 := Z64.mono_l k
  ·intro y0 y1 y2 y3 y4
   unfold Z64.l0
   repeat' first|exact ih0 _ _ _ _ _|exact lo_|refine LeO.ite ?_ ?_|refine LeO.bind ?_ (fun _ => ?_)
theorem Z64.mono : ∀ a0 a1 k, LeO (Z64.f k a0 a1) (Z64.f (k + 1) a0 a1) := by
 intro a0 a1 k
 unfold Z64.f
 exact LeO.bind (Z61.mono _ _) (fun _ => Z64.mono_l k _ _ _ _ _)
theorem below_keep {w0 w w1 w2 : World} {g : Nat} (h0 : Below w0.heap.size w0 w) (h1 : Below w.heap.size w w1) (h2 : Below w0.heap.size w0 w2) (k : KeepBut w1 w2 g none) (hg : w.heap.size ≤ g) : Below w.heap.size w w2 :=
 ⟨h2.os.trans h0.os.symm, h2.tape.trans h0.tape.symm, h2.output.trans h0.output.symm, Nat.le_trans h1.size k.1, fun i hi => (k.2 i (Nat.lt_of_lt_of_le hi h1.size) (by omega) (by simp)).trans (h1.block i hi)⟩
set_option maxHeartbeats 8000000 in
set_option maxRecDepth 100000 in
theorem Z64.calls (k : Nat) (A0 : Option Addr) (c0 : Nat) (l0 : List Int) (a1 : Int) (r1 : List Int) (r2 : Int) (r3 : Int) (w0 w : World) (hB : Below w0.heap.size w0 w) (hr0 : Kd.C (Kd.int .u8) w0 A0 l0.length l0) (hc0 : l0.length ≤ c0) (h : Z64.f k l0 a1 = some (r1, r2, r3)) :
  Calls Try.prog 48 #[.slice A0 l0.length c0, .int .i64 a1] w fun e w' => ∃ g_ : Nat, e = .returned (.pointer (some ⟨g_, 0, none⟩)) ∧ IsS102 w0 w' g_ r1 r2 r3 ∧ Below w0.heap.size w0 w' ∧ Below w.heap.size w w' := by
 have HR0 := A_ hr0
 have HC0 := A_ hc0
 have HB := A_ hB
 clear hr0 hc0 hB
 unfold Z64.f at h
 obtain ⟨⟨b1, p1, h1⟩, F1, H⟩ := Option.bind_eq_some_iff.mp h
 have F1 := A_ F1
 have H' := A_ (show Z64.l0 k b1 p1 h1 a1 0 = some (r1, r2, r3) from H)
 clear H h
 go_enter Try.func48, Try.ntmps48
 go_wp2_with ((with_reducible refine gA_ (f := 62) rfl ?_); refine goesL_ _ rfl rfl Try.func62 (by kernel_rfl) rfl #[.slice A0 l0.length c0] rfl (by (try simp only [mA_, mB_, mC_]); first | done | rfl) ?_; refine (Z61.callsW k A0 c0 l0 b1 p1 h1 w0 _ HB.out HR0.out HC0.out F1.out).mono ?_; rintro e w1 ⟨g, rfl, hI, hB0, hBW, hg⟩; refine ⟨_, rfl, ?_⟩; have HI := A_ hI; have HB0 := A_ hB0; have HBW := A_ hBW; have HG := A_ hg; clear hI hB0 hBW hg)
 go_loopg [6] k (fun kq v6 w' => ∃ (p i h : Int), v6 = .int .i64 i ∧ Aside0 (Z64.l0 kq b1 p h a1 i = some (r1, r2, r3)) ∧ Aside0 (kq ≤ k) ∧ Aside0 (IsS102 w0 w' g b1 p h) ∧ Aside0 (Below w0.heap.size w0 w') ∧ Aside0 (Below w.heap.size w w'))
 case atStart => exact ⟨p1, 0, h1, rfl, H', ⟨nA_ _⟩, HI, HB0, HBW⟩
 case round =>
  clear H' HI HB0 HBW
  obtain ⟨p, i, h, rfl, HA, HK1, HI, HB0, HBW⟩ := hrel
  cases gk with
  | zero => exact absurd HA.out (by simp [Z64.l0])
  | succ k1 =>
   have H := HA.out
   clear HA
   simp only [Z64.l0] at H
   by_cases c3 : i < a1
   ·rw [if_pos c3] at H
    have c3b0 := oC_ c3
    clear c3
    obtain ⟨⟨x, p2, h2⟩, F2, H⟩ := Option.bind_eq_some_iff.mp H
    have F2 := A_ F2
    have H' := A_ H
    clear H
    go_wp2_with ((with_reducible refine gA_ (f := 49) rfl ?_); refine goesL_ _ rfl rfl Try.func49 (by kernel_rfl) rfl #[.pointer (some ⟨g, 0, none⟩)] rfl (by (try simp only [mA_, mB_, mC_]); first | done | rfl) ?_; refine (Z50.calls g b1 p h x p2 h2 w0 _ HI.out HB0.out F2.out).mono ?_; rintro e w2 ⟨rfl, hI, hB0, hk⟩; refine ⟨_, rfl, ?_⟩; replace HI := A_ hI; replace HB0 := A_ hB0; replace HBW := A_ (below_keep HB.out HBW.out hB0 hk HG.out); clear hI hB0 hk)
    go_roundg k1
    case measure => have := HK1.out; omega
    case rel => exact ⟨p2, wrap64 (i + 1), h2, rfl, H', ⟨by have := HK1.out; omega⟩, HI, HB0, HBW⟩
   ·rw [if_neg c3] at H
    have c3b0 := oD_ c3
    clear c3
    simp only [Option.some.injEq, Prod.mk.injEq] at H
    obtain ⟨rfl, rfl, rfl⟩ := H
    go_wp2
    go_ret
    exact ⟨g, rfl, HI.out, HB0.out, HBW.out⟩
def Z62.f (s0_0 : List Int) (s0_1 : Int) (s0_2 : Int) (l1 : List ByteArray) : Option (ByteArray × Int × Int) := (Z42.f s0_0 s0_1 s0_2 (l1.length : Int)).bind fun bt723 => (if 0 ≤ bt723.1 then (if bt723.1 < (l1.length : Int) then (some (rdOf ByteArray.empty l1 bt723.1, bt723.2.1, bt723.2.2)) else (none)) else (none))
set_option maxHeartbeats 8000000 in
set_option maxRecDepth 100000 in
theorem Z62.calls (g : Nat) (s0_0 : List Int) (s0_1 : Int) (s0_2 : Int) (A1 : Option Addr) (c1 : Nat) (l1 : List ByteArray) (r1 : ByteArray) (r2 : Int) (r3 : Int) (w0 w : World) (hI : IsS102 w0 w g s0_0 s0_1 s0_2) (hB : Below w0.heap.size w0 w) (hr1 : Kd.C Kd.string w A1 l1.length l1) (hc1 : l1.length ≤ c1) (hf1 : ∀ ad, A1 = some ad → 0 < l1.length → ad.block ≠ g) (h : Z62.f s0_0 s0_1 s0_2 l1 = some (r1, r2, r3)) :
  Calls Try.prog 118 #[.pointer (some ⟨g, 0, none⟩), .slice A1 l1.length c1] w fun e w' => e = .returned (.string r1) ∧ IsS102 w0 w' g s0_0 r2 r3 ∧ Below w0.heap.size w0 w' ∧ KeepBut w w' g none := by
 have HR1 := A_ hr1
 have HC1 := A_ hc1
 clear hr1 hc1
 have HI0 := A_ hI
 have HK := A_ (KeepBut.refl w g none)
 have HL := A_ hB.size
 clear hI
 have HW0 := A_ hB.size
 have HB := A_ hB
 clear hB
 have H := h
 unfold Z62.f at H
 clear h
 obtain ⟨⟨t723, t724, t725⟩, A3, H⟩ := bi_ H
 try dsimp only at H
 have c4 := cp_ H
 replace H := ca_ H
 have c4b0 := oC_ c4
 clear c4
 have c5 := cp_ H
 replace H := ca_ H
 have c5b0 := oC_ c5
 clear c5
 simp only [Option.some.injEq, Prod.mk.injEq] at H
 obtain ⟨rfl, rfl, rfl⟩ := H
 go_enter Try.func118, Try.ntmps118
 go_wp2_with (first | ((with_reducible refine gA_ (f := 63) rfl ?_); refine gL_ (some 9) Try.func63 #[.pointer (some ⟨g, 0, none⟩), .int .i64 (l1.length : Int)] rfl qa_ ?_; (with_reducible refine (Z42.calls g s0_0 s0_1 s0_2 (l1.length : Int) t723 t724 t725 w0 _ ?side1 ?side2 A3.out).mono ?_); (case side1 => repeat (first | (with_reducible first | exact HI0.out | apply IsS102.alloc | apply IsS102.drewN | apply IsS102.drew | apply IsS102.set_1 | apply IsS102.set_2) | exact HI0.out)); (case side2 => repeat (first | (with_reducible first | exact HB.out | apply bA_ | apply bB_ | apply bC_ | refine bD_ ?_ (IsS102.ge HI0.out)) | exact HB.out)); rintro e w6 ⟨rfl, hi, hb, hk⟩; refine ⟨_, rfl, ?_⟩; replace HK := A_ (KeepBut.trans hK_ hk (.inl rfl)); replace HB := A_ hb; replace HI0 := A_ hi; clear hb hk hi; have p726 : 0 ≤ (t723 : Int) := oB_ qe_; have q726 : t723 < (l1.length : Int) := oB_ qe_; obtain ⟨ad726, e726, hx726_0⟩ := Kd.at_string HR1.out t723 p726 q726; cases e726; replace hx726_0 := keep_cell HK.out hx726_0 (by first | (rw [add_block]; exact hf1 _ rfl (by omega)) | exact hf1 _ rfl (by omega) | exact hf1 ad726 rfl (by omega)); replace p726 := eq_true p726; replace q726 := eq_true q726))
 go_ret
 exact ⟨qb_, hI_IsS102_HI0, hBI_, hK_⟩
def Z54.l0 : Nat → ByteArray → Int → List Int → Int → Int → Option (ByteArray × Int × Int)
 | 0, _, _, _, _, _ => none
 | k + 1, x5, x6, x1000, x1001, x1002 => if x6 > 0 then ((Z62.f x1000 x1001 x1002 (([(⟨#[84]⟩ : ByteArray), (⟨#[83]⟩ : ByteArray), (⟨#[116]⟩ : ByteArray), (⟨#[115]⟩ : ByteArray), (⟨#[84]⟩ : ByteArray)] : List ByteArray))).bind fun bt733 => (if x5.size + bt733.1.size ≤ 9223372036854775807 then (Z54.l0 k (x5 ++ bt733.1) (wrap64 (x6 - 1)) x1000 bt733.2.1 bt733.2.2) else (none))) else (some (x5, x1001, x1002))
def Z54.f (k : Nat) (s0_0 : List Int) (s0_1 : Int) (s0_2 : Int) (a1 : Int) : Option (ByteArray × Int × Int) := (Z42.f s0_0 s0_1 s0_2 (wrap64 (a1 + 1))).bind fun bt727 => (Z54.l0 k (⟨#[]⟩ : ByteArray) bt727.1 s0_0 bt727.2.1 bt727.2.2)
theorem Z54.mono_l : ∀ k, (∀ y0 y1 y2 y3 y4, LeO (Z54.l0 k y0 y1 y2 y3 y4) (Z54.l0 (k + 1) y0 y1 y2 y3 y4))
 | 0 => fun _ _ _ _ _ r h => by simp [Z54.l0] at h
 | k + 1 => by
  have ih0 := Z54.mono_l k
  ·intro y0 y1 y2 y3 y4
   unfold Z54.l0
   repeat' first|exact ih0 _ _ _ _ _|exact lo_|refine LeO.ite ?_ ?_|refine LeO.bind ?_ (fun _ => ?_)
theorem Z54.mono : ∀ a0 a1 a2 a3 k, LeO (Z54.f k a0 a1 a2 a3) (Z54.f (k + 1) a0 a1 a2 a3) := by
 intro a0 a1 a2 a3 k
 have ih0 := Z54.mono_l k
 unfold Z54.f
 repeat' first|exact ih0 _ _ _ _ _|exact lo_|refine LeO.ite ?_ ?_|refine LeO.bind ?_ (fun _ => ?_)
set_option maxHeartbeats 8000000 in
set_option maxRecDepth 100000 in
theorem Z54.calls (k : Nat) (g : Nat) (s0_0 : List Int) (s0_1 : Int) (s0_2 : Int) (a1 : Int) (r1 : ByteArray) (r2 : Int) (r3 : Int) (w0 w : World) (hI : IsS102 w0 w g s0_0 s0_1 s0_2) (hB : Below w0.heap.size w0 w) (h : Z54.f k s0_0 s0_1 s0_2 a1 = some (r1, r2, r3)) :
  Calls Try.prog 71 #[.pointer (some ⟨g, 0, none⟩), .int .i64 a1] w fun e w' => e = .returned (.string r1) ∧ IsS102 w0 w' g s0_0 r2 r3 ∧ Below w0.heap.size w0 w' ∧ KeepBut w w' g none := by
 have HI0 := A_ hI
 have HK := A_ (KeepBut.refl w g none)
 have HL := A_ hB.size
 clear hI
 have HW0 := A_ hB.size
 have HB := A_ hB
 clear hB
 have H := h
 unfold Z54.f at H
 clear h
 obtain ⟨⟨t727, t728, t729⟩, A3, H⟩ := bi_ H
 try dsimp only at H
 have H' := A_ H
 clear H
 go_enter Try.func71, Try.ntmps71
 go_wp2_with (first | ((with_reducible refine gA_ (f := 63) rfl ?_); refine gL_ (some 10) Try.func63 #[.pointer (some ⟨g, 0, none⟩), .int .i64 (wrap64 (a1 + 1))] rfl qa_ ?_; (with_reducible refine (Z42.calls g s0_0 s0_1 s0_2 (wrap64 (a1 + 1)) t727 t728 t729 w0 _ ?side1 ?side2 A3.out).mono ?_); (case side1 => repeat (first | (with_reducible first | exact HI0.out | apply IsS102.alloc | apply IsS102.drewN | apply IsS102.drew | apply IsS102.set_1 | apply IsS102.set_2) | exact HI0.out)); (case side2 => repeat (first | (with_reducible first | exact HB.out | apply bA_ | apply bB_ | apply bC_ | refine bD_ ?_ (IsS102.ge HI0.out)) | exact HB.out)); rintro e w4 ⟨rfl, hi, hb, hk⟩; refine ⟨_, rfl, ?_⟩; replace HK := A_ (KeepBut.trans hK_ hk (.inl rfl)); replace HB := A_ hb; replace HI0 := A_ hi; clear hb hk hi))
 go_loopg [5, 6] k (fun kq v5 v6 w' => ∃ (x5_1 : ByteArray) (x6_1 : Int) (x1001_1 : Int) (x1002_1 : Int), v5 = .string x5_1 ∧ v6 = .int .i64 x6_1 ∧ Aside0 (Z54.l0 kq x5_1 x6_1 s0_0 x1001_1 x1002_1 = some (r1, r2, r3)) ∧ Aside0 (kq ≤ k) ∧ Aside0 (IsS102 w0 w' g s0_0 x1001_1 x1002_1) ∧ Aside0 (KeepBut w w' g none) ∧ Aside0 (Below w0.heap.size w0 w'))
 case atStart => exact ⟨((⟨#[]⟩ : ByteArray)), (t727), (t728), (t729), qc_, qc_, H', ⟨nA_ _⟩, ⟨hI_IsS102_HI0⟩, ⟨hK_⟩, ⟨hBI_⟩⟩
 case round =>
  clear H'
  obtain ⟨x5_1, x6_1, x1001_1, x1002_1, rfl, rfl, HA, HK1, HI0, HK, HB⟩ := hrel
  cases gk with
  | zero => exact absurd HA.out (by simp [Z54.l0])
  | succ k1 =>
   have H := HA.out
   clear HA
   simp only [Z54.l0] at H
   by_cases c5 : x6_1 > 0
   ·rw [if_pos c5] at H
    have c5b0 : decide (0 < x6_1) = true := oC_ c5
    clear c5
    obtain ⟨y730, hy730⟩ : ∃ y_ : List ByteArray, y_ = (([(⟨#[84]⟩ : ByteArray), (⟨#[83]⟩ : ByteArray), (⟨#[116]⟩ : ByteArray), (⟨#[115]⟩ : ByteArray), (⟨#[84]⟩ : ByteArray)] : List ByteArray)) := ⟨_, rfl⟩
    replace H : ((Z62.f s0_0 x1001_1 x1002_1 y730).bind fun bt733 => (if x5_1.size + bt733.1.size ≤ 9223372036854775807 then (Z54.l0 k1 (x5_1 ++ bt733.1) (wrap64 (x6_1 - 1)) s0_0 bt733.2.1 bt733.2.2) else (none))) = some (r1, r2, r3) := by first | (rw [hy730]; exact H) | exact H
    have Ny730 := A_ hy730
    clear hy730
    obtain ⟨⟨t733, t734, t735⟩, A6, H⟩ := bi_ H
    try dsimp only at H
    have c7 := cp_ H
    replace H := ca_ H
    have c7b0 := eq_true c7
    have c7b1 := oC_ c7
    try have c7b2 : (9223372036854775807 < x5_1.size + t733.size) = False := eq_false (Nat.not_lt.2 c7)
    have H' := A_ H
    clear H
    go_wp2_with (first | ((with_reducible refine gB_ (N := 17) rfl ?_); refine Kd.R_lit Kd.string _ 9 ?hg (N := 17) ?hd (xs := ([(⟨#[84]⟩ : ByteArray), (⟨#[83]⟩ : ByteArray), (⟨#[116]⟩ : ByteArray), (⟨#[115]⟩ : ByteArray), (⟨#[84]⟩ : ByteArray)] : List ByteArray)) (inner := [.string (⟨#[84]⟩ : ByteArray), .string (⟨#[83]⟩ : ByteArray), .string (⟨#[116]⟩ : ByteArray), .string (⟨#[115]⟩ : ByteArray), .string (⟨#[84]⟩ : ByteArray)]) (ok := fun _ => True) (okp := fun _ => True) ?hr ?hp (fun _ hk => hk) trivial (Below.refl _ _) (nA_ _) (by simp) ?_; (case hd => rfl); (case hg => rfl); (case hr => first | (go_simp; done) | (go_simp; rfl)); (case hp => exact (Reps.one (show Kd.M Kd.string _ _ _ (⟨#[84]⟩ : ByteArray) [.string (⟨#[84]⟩ : ByteArray)] from rfl) (Reps.one (show Kd.M Kd.string _ _ _ (⟨#[83]⟩ : ByteArray) [.string (⟨#[83]⟩ : ByteArray)] from rfl) (Reps.one (show Kd.M Kd.string _ _ _ (⟨#[116]⟩ : ByteArray) [.string (⟨#[116]⟩ : ByteArray)] from rfl) (Reps.one (show Kd.M Kd.string _ _ _ (⟨#[115]⟩ : ByteArray) [.string (⟨#[115]⟩ : ByteArray)] from rfl) (Reps.one (show Kd.M Kd.string _ _ _ (⟨#[84]⟩ : ByteArray) [.string (⟨#[84]⟩ : ByteArray)] from rfl) (Reps.none _ _))))))); intro v731 w8 ho9 hb hg_ hnew_; clear hg_ hnew_; (first | rw [← Ny730.out] at ho9 | (simp only [Int.reduceToNat] at ho9; rw [← Ny730.out] at ho9)); have HO732 := A_ (rE_ ho9 (keep_size (w := w) (g := g) (row := none) hK_)); replace HK := A_ (KeepBut.trans hK_ (KeepBut.of_below hb g none) (.inl rfl)); replace HB := b2_ hb; replace HI0 := A_ (IsS102.below hI_IsS102_HI0 hb); clear hb ho9; obtain ⟨Ao10, co10, eo10⟩ := Kd.R_slice HO732.out; subst eo10) | ((with_reducible refine gA_ (f := 118) rfl ?_); refine gL_ (some 18) Try.func118 #[.pointer (some ⟨g, 0, none⟩), .slice Ao10 y730.length co10] rfl qa_ ?_; (with_reducible refine (Z62.calls g s0_0 x1001_1 x1002_1 _ _ y730 t733 t734 t735 w0 _ ?side1 ?side2 ?side3 ?side4 ?side5 A6.out).mono ?_); (case side1 => repeat (first | (with_reducible first | exact HI0.out | apply IsS102.alloc | apply IsS102.drewN | apply IsS102.drew | apply IsS102.set_1 | apply IsS102.set_2) | exact HI0.out)); (case side2 => repeat (first | (with_reducible first | exact HB.out | apply bA_ | apply bB_ | apply bC_ | refine bD_ ?_ (IsS102.ge HI0.out)) | exact HB.out)); (case side3 => exact cr_ HO732); (case side4 => exact (Kd.R_reads' HO732.out).2.1); (case side5 => exact far_slice (IsS102.own_ne HI0.out HO732.out (by decide))); rintro e w11 ⟨rfl, hi, hb, hk⟩; refine ⟨_, rfl, ?_⟩; replace HO732 := A_ (Kd.R_mono (Kd.R_keep (IsS102.apart (show IsS102 w0 _ g s0_0 x1001_1 x1002_1 from hI_IsS102_HI0) (rr_ HO732) (by decide)) hk (fun _ h => h.2)) (fun _ h => h.1)); replace HK := A_ (KeepBut.trans hK_ hk (.inl rfl)); replace HB := A_ hb; replace HI0 := A_ hi; clear hb hk hi))
    go_roundg k1
    case measure => have := HK1.out; omega
    case rel => exact ⟨(x5_1 ++ t733), (wrap64 (x6_1 - 1)), (t734), (t735), qc_, qc_, H', ⟨by have := HK1.out; omega⟩, ⟨hI_IsS102_HI0⟩, ⟨hK_⟩, ⟨hBI_⟩⟩
   ·rw [if_neg c5] at H
    have c5b0 : decide (0 < x6_1) = false := oD_ c5
    clear c5
    simp only [Option.some.injEq, Prod.mk.injEq] at H
    obtain ⟨rfl, rfl, rfl⟩ := H
    go_wp2
    go_ret
    exact ⟨qb_, hI_IsS102_HI0, hBI_, hK_⟩
def Z41.f (k : Nat) (l0 : List Int) (a1 : Int) : Option (ByteArray) := (Z64.f k l0 a1).bind fun bt736 => ((Z54.f k bt736.1 bt736.2.1 bt736.2.2 6).bind fun bt740 => (some bt740.1))
theorem Z41.mono : ∀ a0 a1 k, LeO (Z41.f k a0 a1) (Z41.f (k + 1) a0 a1) := by
 intro a0 a1 k
 unfold Z41.f
 repeat' first|exact Z54.mono _ _ _ _ _|exact Z64.mono _ _ _|exact lo_|refine LeO.ite ?_ ?_|refine LeO.bind ?_ (fun _ => ?_)
set_option maxHeartbeats 8000000 in
set_option maxRecDepth 100000 in
theorem Z41.calls (k : Nat) (A0 : Option Addr) (c0 : Nat) (l0 : List Int) (a1 : Int) (r : ByteArray) (w : World) (hr0 : Kd.C (Kd.int .u8) w A0 l0.length l0) (hc0 : l0.length ≤ c0) (h : Z41.f k l0 a1 = some r) :
  Calls Try.prog 22 #[.slice A0 l0.length c0, .int .i64 a1] w fun e w' => e = .returned (.string r) ∧ Below w.heap.size w w' := by
 have HR0 := A_ hr0
 have HC0 := A_ hc0
 clear hr0 hc0
 have HB := A_ (Below.refl w.heap.size w)
 have H := h
 unfold Z41.f at H
 clear h
 obtain ⟨⟨t736, t737, t738⟩, A3, H⟩ := bi_ H
 try dsimp only at H
 obtain ⟨⟨t740, t741, t742⟩, A4, H⟩ := bi_ H
 try dsimp only at H
 obtain rfl := Option.some.inj H
 go_enter Try.func22, Try.ntmps22
 go_wp2_with (first | ((with_reducible refine gA_ (f := 48) rfl ?_); refine gL_ (some 7) Try.func48 #[.slice A0 l0.length c0, .int .i64 a1] rfl qa_ ?_; (with_reducible refine (Z64.calls k _ _ l0 a1 t736 t737 t738 w _ ?side1 ?side2 ?side3 A3.out).mono ?_); (case side1 => repeat (first | (with_reducible first | exact HB.out | apply bA_ | apply bB_ | apply bC_) | exact HB.out)); (case side2 => exact HR0.out); (case side3 => exact HC0.out); rintro e w5 ⟨g739, rfl, hi, hb, hb2⟩; refine ⟨_, rfl, ?_⟩; replace HB := A_ hb; have HI739 := A_ hi; clear hb hb2 hi) | ((with_reducible refine gA_ (f := 71) rfl ?_); refine gL_ (some 8) Try.func71 #[.pointer (some ⟨g739, 0, none⟩), .int .i64 6] rfl qa_ ?_; (with_reducible refine (Z54.calls k g739 t736 t737 t738 6 t740 t741 t742 w _ ?side1 ?side2 A4.out).mono ?_); (case side1 => repeat (first | (with_reducible first | exact HI739.out | apply IsS102.alloc | apply IsS102.drewN | apply IsS102.drew | apply IsS102.set_1 | apply IsS102.set_2) | exact HI739.out)); (case side2 => repeat (first | (with_reducible first | exact HB.out | apply bA_ | apply bB_ | apply bC_ | refine bD_ ?_ (IsS102.ge HI739.out)) | exact HB.out)); rintro e w6 ⟨rfl, hi, hb, hk⟩; refine ⟨_, rfl, ?_⟩; replace HB := A_ hb; replace HI739 := A_ hi; clear hb hk hi))
 go_ret
 exact ⟨qb_, hBI_⟩
def Z67.l0 : Nat → List Int → List Int → Int → Int → Option (Bool)
 | 0, _, _, _, _ => none
 | k + 1, x1, x12, x13, x14 => if x14 < x13 then (if 0 ≤ x14 then (if x14 < (x12.length : Int) then (if x14 < (x1.length : Int) then (if (rd x12 x14) = (rd x1 x14) then (Z67.l0 k x1 x12 x13 (wrap64 (x14 + 1))) else (some false)) else (none)) else (none)) else (none)) else (some true)
def Z67.f (k : Nat) (l0 : List Int) (l1 : List Int) : Option (Bool) := if (l0.length : Int) = (l1.length : Int) then (Z67.l0 k l1 l0 (l0.length : Int) 0) else (some false)
theorem Z67.mono_l : ∀ k, (∀ y0 y1 y2 y3, LeO (Z67.l0 k y0 y1 y2 y3) (Z67.l0 (k + 1) y0 y1 y2 y3))
 | 0 => fun _ _ _ _ r h => by simp [Z67.l0] at h
 | k + 1 => by
  have ih0 := Z67.mono_l k
  ·intro y0 y1 y2 y3
   unfold Z67.l0
   repeat' first|exact ih0 _ _ _ _|exact lo_|refine LeO.ite ?_ ?_|refine LeO.bind ?_ (fun _ => ?_)
theorem Z67.mono : ∀ a0 a1 k, LeO (Z67.f k a0 a1) (Z67.f (k + 1) a0 a1) := by
 intro a0 a1 k
 have ih0 := Z67.mono_l k
 unfold Z67.f
 repeat' first|exact ih0 _ _ _ _|exact lo_|refine LeO.ite ?_ ?_|refine LeO.bind ?_ (fun _ => ?_)
set_option maxHeartbeats 8000000 in
set_option maxRecDepth 100000 in
theorem Z67.calls (k : Nat) (A0 : Option Addr) (c0 : Nat) (l0 : List Int) (A1 : Option Addr) (c1 : Nat) (l1 : List Int) (r : Bool) (w : World) (hr0 : Kd.C (Kd.int .i64) w A0 l0.length l0) (hc0 : l0.length ≤ c0) (hr1 : Kd.C (Kd.int .i64) w A1 l1.length l1) (hc1 : l1.length ≤ c1) (h : Z67.f k l0 l1 = some r) :
  Calls Try.prog 24 #[.slice A0 l0.length c0, .slice A1 l1.length c1] w fun e w' => e = .returned (.bool r) ∧ Drawn0 w w' := by
 have HR0 := A_ hr0
 have HC0 := A_ hc0
 clear hr0 hc0
 have HR1 := A_ hr1
 have HC1 := A_ hc1
 clear hr1 hc1
 have H := h
 unfold Z67.f at H
 clear h
 by_cases c3 : (l0.length : Int) = (l1.length : Int)
 ·rw [if_pos c3] at H
  have c3b0 : ((l0.length : Int) == (l1.length : Int)) = true := beq_iff_eq.mpr c3
  have c3b1 : ((l0.length : Int) != (l1.length : Int)) = false := bne_eq_false_iff_eq.mpr c3
  have c3b2 : (l0.length == l1.length) = true := by first | simpa using c3 | (simp at c3 ⊢; omega)
  clear c3
  have H' := A_ H
  clear H
  go_enter Try.func24, Try.ntmps24
  go_wp2
  go_loopg [14] k (fun kq v14 w' => ∃ (x14_1 : Int), v14 = .int .i64 x14_1 ∧ Aside0 (Z67.l0 kq l1 l0 (l0.length : Int) x14_1 = some r) ∧ Aside0 (kq ≤ k) ∧ Drawn0 w w')
  case atStart => exact ⟨(0), qc_, H', ⟨nA_ _⟩, by repeat (first | exact Drawn0.refl _ | apply Drawn0.step)⟩
  case round =>
   clear H'
   obtain ⟨x14_1, rfl, HA, HK1, ⟨m1, rfl⟩⟩ := hrel
   cases gk with
   | zero => exact absurd HA.out (by simp [Z67.l0])
   | succ k1 =>
    have H := HA.out
    clear HA
    simp only [Z67.l0] at H
    by_cases c4 : x14_1 < (l0.length : Int)
    ·rw [if_pos c4] at H
     have c4b0 := oC_ c4
     clear c4
     have c5 := cp_ H
     replace H := ca_ H
     have c5b0 := oC_ c5
     clear c5
     have c6 := cp_ H
     replace H := ca_ H
     have c6b0 := oC_ c6
     clear c6
     have c7 := cp_ H
     replace H := ca_ H
     have c7b0 := oC_ c7
     clear c7
     by_cases c8 : (rd l0 x14_1) = (rd l1 x14_1)
     ·rw [if_pos c8] at H
      have c8b0 : ((rd l0 x14_1) == (rd l1 x14_1)) = true := beq_iff_eq.mpr c8
      have c8b1 : ((rd l0 x14_1) != (rd l1 x14_1)) = false := bne_eq_false_iff_eq.mpr c8
      clear c8
      have H' := A_ H
      clear H
      have p743 : 0 ≤ (x14_1 : Int) := oB_ qe_
      have q743 : x14_1 < (l0.length : Int) := oB_ qe_
      obtain ⟨ad743, e743, hx743_0⟩ := Kd.at_int HR0.out x14_1 p743 q743
      cases e743
      replace p743 := eq_true p743
      replace q743 := eq_true q743
      have p744 : 0 ≤ (x14_1 : Int) := oB_ qe_
      have q744 : x14_1 < (l1.length : Int) := oB_ qe_
      obtain ⟨ad744, e744, hx744_0⟩ := Kd.at_int HR1.out x14_1 p744 q744
      cases e744
      replace p744 := eq_true p744
      replace q744 := eq_true q744
      go_wp2
      go_roundg k1
      case measure => have := HK1.out; omega
      case rel => exact ⟨(wrap64 (x14_1 + 1)), qc_, H', ⟨by have := HK1.out; omega⟩, by repeat (first | exact Drawn0.refl _ | apply Drawn0.step)⟩
     ·rw [if_neg c8] at H
      have c8b0 : ((rd l0 x14_1) == (rd l1 x14_1)) = false := beq_eq_false_iff_ne.mpr c8
      have c8b1 : ((rd l0 x14_1) != (rd l1 x14_1)) = true := bne_iff_ne.mpr c8
      obtain rfl := Option.some.inj H
      have p743 : 0 ≤ (x14_1 : Int) := oB_ qe_
      have q743 : x14_1 < (l0.length : Int) := oB_ qe_
      obtain ⟨ad743, e743, hx743_0⟩ := Kd.at_int HR0.out x14_1 p743 q743
      cases e743
      replace p743 := eq_true p743
      replace q743 := eq_true q743
      have p744 : 0 ≤ (x14_1 : Int) := oB_ qe_
      have q744 : x14_1 < (l1.length : Int) := oB_ qe_
      obtain ⟨ad744, e744, hx744_0⟩ := Kd.at_int HR1.out x14_1 p744 q744
      cases e744
      replace p744 := eq_true p744
      replace q744 := eq_true q744
      go_wp2
      go_ret
      exact ⟨qc_, by repeat (first | exact Drawn0.refl _ | apply Drawn0.step)⟩
    ·rw [if_neg c4] at H
     have c4b0 := oD_ c4
     clear c4
     obtain rfl := Option.some.inj H
     go_wp2
     go_ret
     exact ⟨qc_, by repeat (first | exact Drawn0.refl _ | apply Drawn0.step)⟩
 ·rw [if_neg c3] at H
  have c3b0 : ((l0.length : Int) == (l1.length : Int)) = false := beq_eq_false_iff_ne.mpr c3
  have c3b1 : ((l0.length : Int) != (l1.length : Int)) = true := bne_iff_ne.mpr c3
  have c3b2 : (l0.length == l1.length) = false := by first | simpa using c3 | (simp at c3 ⊢; omega)
  obtain rfl := Option.some.inj H
  go_enter Try.func24, Try.ntmps24
  go_wp2
  go_ret
  exact ⟨qc_, by repeat (first | exact Drawn0.refl _ | apply Drawn0.step)⟩
end Go.Proofs.Ytoijcallajegfaa.A
end
