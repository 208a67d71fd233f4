/- Lemmas for the row FnListed: the program's functions told as plain functions, and plain mathematics. No conditions. -/
import Derived.Test.YtoijcallajegfaaQFnListed3
section
namespace Go.Proofs.Ytoijcallajegfaa.A
open Go.RowKit Go.Proofs.YtoijcallajegfaaW.PrintWords Go.Proofs.YtoijcallajegfaaW.PrintLast Go.Proofs.YtoijcallajegfaaW.PrintMore
attribute [local go_sem] max2_int min2_int max_two min_two max_three min_three max_four min_four
set_option linter.unusedVariables false
set_option linter.unusedSimpArgs false
mutual
def laws_FnListed.j0 : Nat → List Int → Int → List (S33) → Bool → Option (Bool)
  | 0, _, _, _, _ => none
  | k + 1, x0, x3, x4, x42 => if x42 = true then (some false) else ((impl_StrataWith.f k x3).bind fun t469 => (laws_FnListed.l0 k x0 x3 x4 0 t469 (t469.length : Int) 0))
def laws_FnListed.l0 : Nat → List Int → Int → List (S33) → Int → List (List Int) → Int → Int → Option (Bool)
  | 0, _, _, _, _, _, _, _ => none
  | k + 1, x0, x3, x4, x5, x44, x45, x46 => if x46 < x45 then (if 0 ≤ x46 then (if x46 < (x44.length : Int) then ((impl_SurfacesIn.f k x3 (rd_L5 x44 x46)).bind fun t473 => (laws_FnListed.l0 k x0 x3 x4 (wrap64 (x5 + (t473.length : Int))) x44 x45 (wrap64 (x46 + 1)))) else (none)) else (none)) else ((spec_MakePerm.f k x0 20 x3).bind fun t476 => ((spec_MakePerm.f k x0 40 x3).bind fun t479 => ((impl_CanonOf.f k t476 t479).bind fun bt483 => (laws_FnListed.l1 k x4 x5 bt483.2.2 false x4 (x4.length : Int) 0 t476 t479 bt483.1 bt483.2.1))))
def laws_FnListed.l1 : Nat → List (S33) → Int → Bool → Bool → List (S33) → Int → Int → List Int → List Int → List Int → List Int → Option (Bool)
  | 0, _, _, _, _, _, _, _, _, _, _, _ => none
  | k + 1, x4, x5, x10, x11, x69, x70, x71, x483000, x483001, x491000, x491001 => if x71 < x70 then (if 0 ≤ x71 then (if x71 < (x69.length : Int) then ((impl_CanonOf.f k ((rd_T33 x69 x71).f0) ((rd_T33 x69 x71).f1)).bind fun bt494 => (if bt494.2.2 = true then ((impl_SameSurface.f k ((rd_T33 x69 x71).f0) ((rd_T33 x69 x71).f1) bt494.1 bt494.2.1).bind fun t502 => (if t502 = true then (if x11 = true then (laws_FnListed.l1 k x4 x5 x10 true x69 x70 (wrap64 (x71 + 1)) x483000 x483001 x491000 x491001) else (if x10 = true then ((impl_SameSurface.f k ((rd_T33 x69 x71).f0) ((rd_T33 x69 x71).f1) x491000 x491001).bind fun t503 => (laws_FnListed.l1 k x4 x5 x10 t503 x69 x70 (wrap64 (x71 + 1)) x483000 x483001 x491000 x491001)) else (laws_FnListed.l1 k x4 x5 x10 false x69 x70 (wrap64 (x71 + 1)) x483000 x483001 x491000 x491001))) else (some false))) else (some false))) else (none)) else (none)) else (if x5 = (x4.length : Int) then (if (x11 == x10) = true then ((impl_SurfaceOk.f k x483000 x483001).bind fun t491 => (some (x10 == t491))) else (some false)) else (some false))
end
def laws_FnListed.f (k : Nat) (l0 : List Int) : Option (Bool) := if (l0.length : Int) > 1048576 then (some true) else ((some (([1, 2, 3, 3, 2, 3, 3, 3, 3, 3, 3, 4] : List Int) : List Int)).bind fun y452 => ((spec_MakeNum.f k l0 1).bind fun t455 => (if 0 ≤ (Int.tmod t455 12) then (if (Int.tmod t455 12) < (y452.length : Int) then ((impl_SurfacesWith.f k (rd y452 (Int.tmod t455 12))).bind fun t457 => ((some (([0, 1, 3, 7, 26] : List Int) : List Int)).bind fun y460 => (if 0 ≤ (rd y452 (Int.tmod t455 12)) then (if (rd y452 (Int.tmod t455 12)) < (y460.length : Int) then (if (t457.length : Int) = (rd y460 (rd y452 (Int.tmod t455 12))) then ((impl_CountTori.f k (rd y452 (Int.tmod t455 12))).bind fun t464 => ((some (([0, 1, 3, 4, 7] : List Int) : List Int)).bind fun y465 => (if (rd y452 (Int.tmod t455 12)) < (y465.length : Int) then (laws_FnListed.j0 k l0 (rd y452 (Int.tmod t455 12)) t457 (t464 != (rd y465 (rd y452 (Int.tmod t455 12))))) else (none)))) else (laws_FnListed.j0 k l0 (rd y452 (Int.tmod t455 12)) t457 true)) else (none)) else (none)))) else (none)) else (none))))
theorem laws_FnListed.mono_l : ∀ k, (∀ y0 y1 y2 y3, LeO (laws_FnListed.j0 k y0 y1 y2 y3) (laws_FnListed.j0 (k + 1) y0 y1 y2 y3)) ∧ (∀ y0 y1 y2 y3 y4 y5 y6, LeO (laws_FnListed.l0 k y0 y1 y2 y3 y4 y5 y6) (laws_FnListed.l0 (k + 1) y0 y1 y2 y3 y4 y5 y6)) ∧ (∀ y0 y1 y2 y3 y4 y5 y6 y7 y8 y9 y10, LeO (laws_FnListed.l1 k y0 y1 y2 y3 y4 y5 y6 y7 y8 y9 y10) (laws_FnListed.l1 (k + 1) y0 y1 y2 y3 y4 y5 y6 y7 y8 y9 y10))
  | 0 => ⟨fun _ _ _ _ r h => by simp [laws_FnListed.j0] at h, fun _ _ _ _ _ _ _ r h => by simp [laws_FnListed.l0] at h, fun _ _ _ _ _ _ _ _ _ _ _ r h => by simp [laws_FnListed.l1] at h⟩
  | k + 1 => by
    obtain ⟨ih0, ih1, ih2⟩ := laws_FnListed.mono_l k
    refine ⟨?_, ?_, ?_⟩
    · intro y0 y1 y2 y3
      unfold laws_FnListed.j0
      repeat' first|exact ih0 _ _ _ _|exact ih1 _ _ _ _ _ _ _|exact ih2 _ _ _ _ _ _ _ _ _ _ _|exact impl_CanonOf.mono _ _ _|exact impl_CountTori.mono _ _|exact impl_SameSurface.mono _ _ _ _ _|exact impl_StrataWith.mono _ _|exact impl_SurfaceOk.mono _ _ _|exact impl_SurfacesIn.mono _ _ _|exact impl_SurfacesWith.mono _ _|exact spec_MakeNum.mono _ _ _|exact spec_MakePerm.mono _ _ _ _|exact lo_|refine LeO.ite ?_ ?_|refine LeO.bind ?_ (fun _ => ?_)
    · intro y0 y1 y2 y3 y4 y5 y6
      unfold laws_FnListed.l0
      repeat' first|exact ih0 _ _ _ _|exact ih1 _ _ _ _ _ _ _|exact ih2 _ _ _ _ _ _ _ _ _ _ _|exact impl_CanonOf.mono _ _ _|exact impl_CountTori.mono _ _|exact impl_SameSurface.mono _ _ _ _ _|exact impl_StrataWith.mono _ _|exact impl_SurfaceOk.mono _ _ _|exact impl_SurfacesIn.mono _ _ _|exact impl_SurfacesWith.mono _ _|exact spec_MakeNum.mono _ _ _|exact spec_MakePerm.mono _ _ _ _|exact lo_|refine LeO.ite ?_ ?_|refine LeO.bind ?_ (fun _ => ?_)
    · intro y0 y1 y2 y3 y4 y5 y6 y7 y8 y9 y10
      unfold laws_FnListed.l1
      repeat' first|exact ih0 _ _ _ _|exact ih1 _ _ _ _ _ _ _|exact ih2 _ _ _ _ _ _ _ _ _ _ _|exact impl_CanonOf.mono _ _ _|exact impl_CountTori.mono _ _|exact impl_SameSurface.mono _ _ _ _ _|exact impl_StrataWith.mono _ _|exact impl_SurfaceOk.mono _ _ _|exact impl_SurfacesIn.mono _ _ _|exact impl_SurfacesWith.mono _ _|exact spec_MakeNum.mono _ _ _|exact spec_MakePerm.mono _ _ _ _|exact lo_|refine LeO.ite ?_ ?_|refine LeO.bind ?_ (fun _ => ?_)
theorem laws_FnListed.mono : ∀ a0 k, LeO (laws_FnListed.f k a0) (laws_FnListed.f (k + 1) a0) := by
  intro a0 k
  obtain ⟨ih0, ih1, ih2⟩ := laws_FnListed.mono_l k
  unfold laws_FnListed.f
  repeat' first|exact ih0 _ _ _ _|exact ih1 _ _ _ _ _ _ _|exact ih2 _ _ _ _ _ _ _ _ _ _ _|exact impl_CanonOf.mono _ _ _|exact impl_CountTori.mono _ _|exact impl_SameSurface.mono _ _ _ _ _|exact impl_StrataWith.mono _ _|exact impl_SurfaceOk.mono _ _ _|exact impl_SurfacesIn.mono _ _ _|exact impl_SurfacesWith.mono _ _|exact spec_MakeNum.mono _ _ _|exact spec_MakePerm.mono _ _ _ _|exact lo_|refine LeO.ite ?_ ?_|refine LeO.bind ?_ (fun _ => ?_)
def laws_FnListed.T5 : Bool × List (List Nat × List Nat) := (true, [([], []), ([0], [0]), ([], []), ([], []), ([2, 3], [2, 3]), ([4], [4]), ([1, 5], [1, 5]), ([6], [6]), ([7], [7]), ([8, 7, 7], [7, 8]), ([7], [7]), ([7], [7]), ([10, 11, 7], [7, 10, 11]), ([12, 7], [7, 12]), ([9, 13, 7], [7, 9, 13]), ([7, 14], [7, 14])])
def laws_FnListed.B5 : List Nat := [0, 1, 0, 0, 12, 28, 63, 127, 255, 511, 255, 255, 3327, 7423, 16383, 32767]
theorem laws_FnListed.tab5 : rtab .any (opsOf Try.f3 5) = laws_FnListed.T5 := by kernel_rfl
theorem laws_FnListed.bits5 : waitsOk laws_FnListed.T5.2 laws_FnListed.B5 = true := by kernel_rfl
theorem laws_FnListed.ay {P Q : Nat → Prop} (h : ∀ k, P k → Q k := by intro k hk; first | exact trivial | (revert hk; (try simp only [and_imp]); intros; (repeat' apply And.intro) <;> first | assumption | exact trivial)) : ∀ k, P k → Q k := h
set_option maxHeartbeats 8000000 in
set_option maxRecDepth 100000 in
theorem laws_FnListed.calls (k : Nat) (A0 : Option Addr) (c0 : Nat) (l0 : List Int) (r : Bool) (w : World) (hr0 : Kd.C (Kd.int .u8) w A0 l0.length l0) (hc0 : l0.length ≤ c0) (h : laws_FnListed.f k l0 = some r) (hr1_ : Aside0 (r = true)) :
    Calls Try.prog 3 #[.slice A0 l0.length c0] w fun e w' => e = .returned (.bool r) ∧ Below w.heap.size w w' := by
  have hu33 := Try.underlying33
  have HR0 := Aside0.mk hr0
  have HC0 := Aside0.mk hc0
  clear hr0 hc0
  have HB := Aside0.mk (Below.refl w.heap.size w)
  have H := h
  unfold laws_FnListed.f at H
  clear h
  by_cases c2 : (l0.length : Int) > 1048576
  · rw [if_pos c2] at H
    have c2b0 : decide (1048576 < (l0.length : Int)) = true := decide_eq_true c2
    have c2b1 : decide (1048576 < l0.length) = true := decide_eq_true (by omega)
    clear c2
    obtain rfl := Option.some.inj H
    go_enter Try.func3, Try.ntmps3
    go_wp2
    go_ret
    exact ⟨qb_, hB_⟩
  · rw [if_neg c2] at H
    have c2b0 : decide (1048576 < (l0.length : Int)) = false := decide_eq_false c2
    have c2b1 : decide (1048576 < l0.length) = false := decide_eq_false (by omega)
    clear c2
    obtain ⟨y452, hy452⟩ : ∃ y_ : List Int, y_ = (([1, 2, 3, 3, 2, 3, 3, 3, 3, 3, 3, 4] : List Int)) := ⟨_, rfl⟩
    replace H : ((spec_MakeNum.f k l0 1).bind fun t455 => (if 0 ≤ (Int.tmod t455 12) then (if (Int.tmod t455 12) < (y452.length : Int) then ((impl_SurfacesWith.f k (rd y452 (Int.tmod t455 12))).bind fun t457 => ((some (([0, 1, 3, 7, 26] : List Int) : List Int)).bind fun y460 => (if 0 ≤ (rd y452 (Int.tmod t455 12)) then (if (rd y452 (Int.tmod t455 12)) < (y460.length : Int) then (if (t457.length : Int) = (rd y460 (rd y452 (Int.tmod t455 12))) then ((impl_CountTori.f k (rd y452 (Int.tmod t455 12))).bind fun t464 => ((some (([0, 1, 3, 4, 7] : List Int) : List Int)).bind fun y465 => (if (rd y452 (Int.tmod t455 12)) < (y465.length : Int) then (laws_FnListed.j0 k l0 (rd y452 (Int.tmod t455 12)) t457 (t464 != (rd y465 (rd y452 (Int.tmod t455 12))))) else (none)))) else (laws_FnListed.j0 k l0 (rd y452 (Int.tmod t455 12)) t457 true)) else (none)) else (none)))) else (none)) else (none))) = some r := by first | (rw [hy452]; exact H) | exact H
    have Ny452 := Aside0.mk hy452
    clear hy452
    obtain ⟨t455, A3, H⟩ := bi_ H
    obtain ⟨ji4, hji4⟩ : ∃ j_ : Int, (Int.tmod t455 12) = j_ := ⟨_, rfl⟩
    replace H : (if 0 ≤ (ji4) then (if (ji4) < (y452.length : Int) then ((impl_SurfacesWith.f k (rd y452 (ji4))).bind fun t457 => ((some (([0, 1, 3, 7, 26] : List Int) : List Int)).bind fun y460 => (if 0 ≤ (rd y452 (ji4)) then (if (rd y452 (ji4)) < (y460.length : Int) then (if (t457.length : Int) = (rd y460 (rd y452 (ji4))) then ((impl_CountTori.f k (rd y452 (ji4))).bind fun t464 => ((some (([0, 1, 3, 4, 7] : List Int) : List Int)).bind fun y465 => (if (rd y452 (ji4)) < (y465.length : Int) then (laws_FnListed.j0 k l0 (rd y452 (ji4)) t457 (t464 != (rd y465 (rd y452 (ji4))))) else (none)))) else (laws_FnListed.j0 k l0 (rd y452 (ji4)) t457 true)) else (none)) else (none)))) else (none)) else (none)) = some r := by first | (rw [hji4] at H; exact H) | (simp only [hji4] at H ⊢; exact H)
    (try rw [hji4] at A3)
    have c5 := cp_ H
    replace H := ca_ H
    have c5b0 := decide_eq_true c5
    clear c5
    have c6 := cp_ H
    replace H := ca_ H
    have c6b0 := decide_eq_true c6
    clear c6
    obtain ⟨t457, A7, H⟩ := bi_ H
    have HC8 := Aside0.mk H
    clear H
    go_enter Try.func3, Try.ntmps3
    go_upto_region 5 with (first | ((with_reducible refine gate_dst (N := 19) rfl ?_); (try (refine gate_guard (by rfl) ?_; dsimp only)); refine Kd.R_lit (Kd.int .i64) _ 3 ?hg (N := 19) ?hd (xs := ([1, 2, 3, 3, 2, 3, 3, 3, 3, 3, 3, 4] : List Int)) (inner := [.int .i64 1, .int .i64 2, .int .i64 3, .int .i64 3, .int .i64 2, .int .i64 3, .int .i64 3, .int .i64 3, .int .i64 3, .int .i64 3, .int .i64 3, .int .i64 4]) (ok := fun _ => True) (okp := fun _ => True) ?hr ?hp (fun _ hk => hk) trivial (Below.refl _ _) (Nat.le_refl _) (by simp) ?_; (case hd => rfl); (case hg => rfl); (case hr => first | (go_simp; done) | (go_simp; rfl)); (case hp => exact (Reps.one (show Kd.M (Kd.int .i64) _ _ _ 1 [.int .i64 1] from rfl) (Reps.one (show Kd.M (Kd.int .i64) _ _ _ 2 [.int .i64 2] from rfl) (Reps.one (show Kd.M (Kd.int .i64) _ _ _ 3 [.int .i64 3] from rfl) (Reps.one (show Kd.M (Kd.int .i64) _ _ _ 3 [.int .i64 3] from rfl) (Reps.one (show Kd.M (Kd.int .i64) _ _ _ 2 [.int .i64 2] from rfl) (Reps.one (show Kd.M (Kd.int .i64) _ _ _ 3 [.int .i64 3] from rfl) (Reps.one (show Kd.M (Kd.int .i64) _ _ _ 3 [.int .i64 3] from rfl) (Reps.one (show Kd.M (Kd.int .i64) _ _ _ 3 [.int .i64 3] from rfl) (Reps.one (show Kd.M (Kd.int .i64) _ _ _ 3 [.int .i64 3] from rfl) (Reps.one (show Kd.M (Kd.int .i64) _ _ _ 3 [.int .i64 3] from rfl) (Reps.one (show Kd.M (Kd.int .i64) _ _ _ 3 [.int .i64 3] from rfl) (Reps.one (show Kd.M (Kd.int .i64) _ _ _ 4 [.int .i64 4] from rfl) (Reps.none _ _)))))))))))))); intro v453 w9 ho10 hb hg_ hnew_; clear hg_ hnew_; (first | rw [← Ny452.out] at ho10 | (simp only [Int.reduceToNat] at ho10; rw [← Ny452.out] at ho10)); have HO454 := rl_ w ho10; replace HB := b1_ hb; clear hb ho10) | ((with_reducible refine gate_callee (f := 11) rfl ?_); refine gL_ (some 21) Try.func11 #[.slice A0 l0.length c0, .int .i64 1] rfl qa_ ?_; (with_reducible refine (spec_MakeNum.calls k _ _ l0 1 t455 _ (cb_ HR0) HC0.out A3.out).mono ?_); rintro e w11 ⟨rfl, hb⟩; refine ⟨_, rfl, ?_⟩; replace HO454 := rb_ HO454 hb; replace HB := b1_ hb; clear hb; obtain ⟨Ao12, co12, eo12⟩ := Kd.R_slice HO454.out; subst eo12; have p456 : 0 ≤ ((ji4) : Int) := of_decide_eq_true qe_; have q456 : (ji4) < (y452.length : Int) := of_decide_eq_true qe_; obtain ⟨ad456, e456, hx456_0⟩ := Kd.at_int (Kd.R_reads' HO454.out).2.2 (ji4) p456 q456; cases e456; replace p456 := eq_true p456; replace q456 := eq_true q456) | ((with_reducible refine gate_callee (f := 12) rfl ?_); refine gL_ (some 26) Try.func12 #[.int .i64 (rd y452 (ji4))] rfl (by (try simp only [List.map_toArray, List.map_cons, List.map_nil]); first | done | (simp only [hji4]; rfl) | rfl | (simp only [List.length_drop, List.length_take]; rfl)) ?_; (with_reducible refine (impl_SurfacesWith.calls k (rd y452 (ji4)) t457 _ A7.out).mono ?_); rintro e w13 ⟨v458, rfl, ho0, hb⟩; refine ⟨_, rfl, ?_⟩; have HO459 := Aside0.mk (Kd.N_lower (Kd.N_mono (ok' := fun k_ => some k_ ≠ (.slice (some ad456) y452.length co12 : Value).ownBlock) (Kd.S_N (Kd.S_bound ho0)) (fun k_ hk_ => (Kd.fresh' (Kd.R_lt (rr_ HO454)) k_ hk_.2.1))) (below_size hB_)); replace HO454 := rb_ HO454 hb; replace HB := b1_ hb; clear hb ho0))
    (try simp only [Act.put, List.setIfInBounds_toArray, List.set_cons_zero, List.set_cons_succ])
    go_cut [42] (fun v42 wc => ∃ (kq : Nat) (x42_7 : Bool), v42 = .bool x42_7 ∧ Aside0 (laws_FnListed.j0 kq l0 (rd y452 (ji4)) t457 x42_7 = some r) ∧ Aside0 (kq ≤ k) ∧ Aside0 (Kd.N k33 33 wc w.heap.size (fun _ => True) v458 t457) ∧ Aside0 (Below w.heap.size w wc))
    case first =>
      have H := HC8.out
      clear HC8
      obtain ⟨y460, hy460⟩ : ∃ y_ : List Int, y_ = (([0, 1, 3, 7, 26] : List Int)) := ⟨_, rfl⟩
      replace H : (if 0 ≤ (rd y452 (ji4)) then (if (rd y452 (ji4)) < (y460.length : Int) then (if (t457.length : Int) = (rd y460 (rd y452 (ji4))) then ((impl_CountTori.f k (rd y452 (ji4))).bind fun t464 => ((some (([0, 1, 3, 4, 7] : List Int) : List Int)).bind fun y465 => (if (rd y452 (ji4)) < (y465.length : Int) then (laws_FnListed.j0 k l0 (rd y452 (ji4)) t457 (t464 != (rd y465 (rd y452 (ji4))))) else (none)))) else (laws_FnListed.j0 k l0 (rd y452 (ji4)) t457 true)) else (none)) else (none)) = some r := by first | (rw [hy460]; exact H) | exact H
      have Ny460 := Aside0.mk hy460
      clear hy460
      have c14 := cp_ H
      replace H := ca_ H
      have c14b0 := decide_eq_true c14
      clear c14
      (first | rw [c14b0] | (simp only [i64_w, i32_w]; rw [c14b0]) | skip)
      have c15 := cp_ H
      replace H := ca_ H
      have c15b0 := decide_eq_true c15
      clear c15
      by_cases c16 : (t457.length : Int) = (rd y460 (rd y452 (ji4)))
      · rw [if_pos c16] at H
        have c16b0 : ((t457.length : Int) == (rd y460 (rd y452 (ji4)))) = true := beq_iff_eq.mpr c16
        have c16b1 : ((t457.length : Int) != (rd y460 (rd y452 (ji4)))) = false := bne_eq_false_iff_eq.mpr c16
        clear c16
        obtain ⟨t464, A17, H⟩ := bi_ H
        obtain ⟨y465, hy465⟩ : ∃ y_ : List Int, y_ = (([0, 1, 3, 4, 7] : List Int)) := ⟨_, rfl⟩
        replace H : (if (rd y452 (ji4)) < (y465.length : Int) then (laws_FnListed.j0 k l0 (rd y452 (ji4)) t457 (t464 != (rd y465 (rd y452 (ji4))))) else (none)) = some r := by first | (rw [hy465]; exact H) | exact H
        have Ny465 := Aside0.mk hy465
        clear hy465
        have c18 := cp_ H
        replace H := ca_ H
        have c18b0 := decide_eq_true c18
        clear c18
        have H' := Aside0.mk H
        clear H
        try go_wp2
        have pi463 : (0 ≤ ((rd y452 (ji4)) : Int)) = True := eq_true (of_decide_eq_true qe_)
        have qi463 : ((rd y452 (ji4)) < (y460.length : Int)) = True := eq_true (of_decide_eq_true qe_)
        have pi468 : (0 ≤ ((rd y452 (ji4)) : Int)) = True := eq_true (of_decide_eq_true qe_)
        have qi468 : ((rd y452 (ji4)) < (y465.length : Int)) = True := eq_true (of_decide_eq_true qe_)
        replace HO454 := Aside0.mk (Kd.R_drew HO454.out)
        replace HO459 := Aside0.mk (Kd.N_drew HO459.out)
        replace HB := Aside0.mk (below_drew1 HB.out)
        obtain ⟨Ao20, co20, eo20⟩ := Kd.N_slice HO459.out
        (first | subst eo20 | (injection eo20 with f1_ f2_ f3_; have f4_ := f1_.symm; have f5_ := f3_.symm; clear f1_ f2_ f3_; subst f4_; subst f5_))
        refine start_ (n := 16) (S := fun w' => True) (ds := []) (bl_ 16 0) (by kernel_rfl) rfl (by kernel_rfl) trivial (fun hHeld => ?_); refine with_tabW laws_FnListed.tab5 laws_FnListed.bits5 (fun HT_ HW_ => ?_)
        generalize w13.drew = w19 at HO454 HO459 HB hHeld ⊢
        refine pu_ 0 (some 27) (bl_ 16 1) HT_ ?_
        refine pu_ 3 (some 30) (bl_ 16 9) HT_ ?_
        refine inv_at [1, 2, 4, 5, 6, 7, 8, 9, 10, 11, 12, 13, 14, 15] (fun a0_ b a w' => ∃ (v461 : Value) (adz_v461 : Addr) (v466 : Value) (adz_v466 : Addr) (m4_ : Value) (m12_ : Value), a = putSel a0_ b [(1, 28, .int .i64 (t457.length : Int)), (2, 29, v461), (4, 31, m4_), (5, 32, .int .i64 (rd y460 (rd y452 (ji4)))), (6, 33, .bool ((t457.length : Int) != (rd y460 (rd y452 (ji4))))), (7, 34, .bool ((t457.length : Int) != (rd y460 (rd y452 (ji4))))), (8, 35, .int .i64 (rd y452 (ji4))), (9, 36, .int .i64 t464), (10, 37, v466), (11, 38, .int .i64 (rd y452 (ji4))), (12, 39, m12_), (13, 40, .int .i64 (rd y465 (rd y452 (ji4)))), (14, 41, .bool (t464 != (rd y465 (rd y452 (ji4))))), (15, 42, .bool (t464 != (rd y465 (rd y452 (ji4)))))] ∧ (Kd.R (Kd.int .i64) 3 w' w.heap.size (fun _ => True) (.slice (some ad456) y452.length co12) y452) ∧ (Kd.N k33 33 w' w.heap.size (fun k_ => some k_ ≠ (.slice (some ad456) y452.length co12 : Value).ownBlock) (.slice Ao20 t457.length co20) t457) ∧ (Below w.heap.size w w') ∧ (b 2 = true → Kd.R (Kd.int .i64) 3 w' w.heap.size (fun k_ => some k_ ≠ (.slice (some ad456) y452.length co12 : Value).ownBlock) v461 y460) ∧ (b 2 = true → ∃ c_, (v461 : Value) = .slice (some adz_v461) y460.length c_) ∧ (b 10 = true → Kd.R (Kd.int .i64) 3 w' w.heap.size (fun k_ => some k_ ≠ (.slice (some ad456) y452.length co12 : Value).ownBlock) v466 y465) ∧ (b 10 = true → ∃ c_, (v466 : Value) = .slice (some adz_v466) y465.length c_) ∧ (b 4 = true → (m4_ : Value) = .pointer (some (adz_v461.add ((rd y452 (ji4))).toNat))) ∧ (b 12 = true → (m12_ : Value) = .pointer (some (adz_v466.add ((rd y452 (ji4))).toNat)))) HT_.out HW_.out (by kernel_rfl) (by kernel_rfl) ?_ ?_ ?_
        · exact ⟨.bool false, ⟨0, 0, none⟩, .bool false, ⟨0, 0, none⟩, .bool false, .bool false, by simp only [putSel, Bool.false_eq_true, if_false], HO454.out, HO459.out, HB.out, fun h_ => absurd h_ (by decide), fun h_ => absurd h_ (by decide), fun h_ => absurd h_ (by decide), fun h_ => absurd h_ (by decide), fun h_ => absurd h_ (by decide), fun h_ => absurd h_ (by decide)⟩
        · skip
          clear HB HO454 HO459
          refine steps_cons ?_ ?_
          · rintro b a w' ⟨v461, adz_v461, v466, adz_v466, m4_, m12_, ha, Q_HO454, Q_HO459, Q_HB, Q_HO462, Q_HA_HO462, Q_HO467, Q_HA_HO467, Q_X4_, Q_X12_⟩ hb_ hon hoff
            refine ⟨_, rfl, fun K hK => ?_⟩
            have e27 : a.tmps[27]? = some (.slice Ao20 t457.length co20) := by rw [ha]; exact (putSel_off rfl).trans rfl
            replace ha := Aside0.mk ha
            have HO454 := Aside0.mk Q_HO454
            have HO459 := Aside0.mk Q_HO459
            have HB := Aside0.mk Q_HB
            refine value_ (w1 := w') (v := .int .i64 (t457.length : Int)) (by rfl) rfl ?_ ?_
            · go_simp
              (try simp only [i64_w])
              try rfl
            refine hK.out _ _ ⟨v461, adz_v461, v466, adz_v466, m4_, m12_, (by rw [ha.out]; exact putSel_upk 0 hb_ rfl rfl rfl), Q_HO454, Q_HO459, Q_HB, Q_HO462, Q_HA_HO462, fun h0_ => absurd ((hoff 10 (by kernel_rfl)).symm.trans h0_) (by decide), fun h0_ => absurd ((hoff 10 (by kernel_rfl)).symm.trans h0_) (by decide), Q_X4_, fun h0_ => absurd ((hoff 12 (by kernel_rfl)).symm.trans h0_) (by decide)⟩
          refine steps_cons ?_ ?_
          · rintro b a w' ⟨v461, adz_v461, v466, adz_v466, m4_, m12_, ha, Q_HO454, Q_HO459, Q_HB, Q_HO462, Q_HA_HO462, Q_HO467, Q_HA_HO467, Q_X4_, Q_X12_⟩ hb_ hon hoff
            refine ⟨_, rfl, fun K hK => ?_⟩
            replace ha := Aside0.mk ha
            have HO454 := Aside0.mk Q_HO454
            have HO459 := Aside0.mk Q_HO459
            have HB := Aside0.mk Q_HB
            refine Kd.R_lit_step (Kd.int .i64) _ 3 ?hg (N := 29) ?hd (xs := ([0, 1, 3, 7, 26] : List Int)) (inner := [.int .i64 0, .int .i64 1, .int .i64 3, .int .i64 7, .int .i64 26]) (ok := fun _ => True) (okp := fun _ => True) ?hr ?hp (fun _ hk => hk) trivial (Below.refl _ _) (Nat.le_refl _) (by simp) ?_; (case hd => rfl); (case hg => rfl); (case hr => first | (go_simp; done) | (go_simp; rfl)); (case hp => exact (Reps.one (show Kd.M (Kd.int .i64) _ _ _ 0 [.int .i64 0] from rfl) (Reps.one (show Kd.M (Kd.int .i64) _ _ _ 1 [.int .i64 1] from rfl) (Reps.one (show Kd.M (Kd.int .i64) _ _ _ 3 [.int .i64 3] from rfl) (Reps.one (show Kd.M (Kd.int .i64) _ _ _ 7 [.int .i64 7] from rfl) (Reps.one (show Kd.M (Kd.int .i64) _ _ _ 26 [.int .i64 26] from rfl) (Reps.none _ _)))))))
            intro v461 w21 ho22 hb hg_ hnew_
            clear hg_ hnew_
            (first | rw [← Ny460.out] at ho22 | (simp only [Int.reduceToNat] at ho22; rw [← Ny460.out] at ho22))
            replace HO459 := Aside0.mk (Kd.N_elder' (by (with_reducible repeat (first | apply Kd.N_alloc | apply Kd.N_drewN | apply Kd.N_drew)); exact HO459.out) (Kd.R_base ho22) hb)
            have HO462 := Aside0.mk (Kd.R_lower (Kd.R_new' ho22 (Kd.R_lt (rr_ HO454))) (below_size hB_))
            replace HO454 := Aside0.mk (Kd.R_elder' (rr_ HO454) (Kd.R_base ho22) hb)
            replace HB := b1_ hb
            clear hb ho22
            obtain ⟨Ao23, co23, eo23⟩ := Kd.R_slice HO462.out
            subst eo23
            obtain ⟨ado23, fo23, _⟩ := Kd.at_int (Kd.R_reads' HO462.out).2.2 0 (by decide) (by rw [Ny460.out]; simp)
            cases fo23
            refine hK.out _ _ ⟨.slice (some ado23) y460.length co23, ado23, v466, adz_v466, m4_, m12_, (by rw [ha.out]; exact putSel_upk 1 hb_ rfl rfl rfl), (rw_ (Kd.R_mono HO454.out laws_FnListed.ay)), (by (with_reducible repeat (first | apply Kd.N_alloc | apply Kd.N_drewN | apply Kd.N_drew)); exact Kd.N_mono HO459.out laws_FnListed.ay), hB_, fun _ => (rw_ (Kd.R_mono HO462.out laws_FnListed.ay)), fun _ => ⟨_, rfl⟩, fun h0_ => absurd ((hoff 10 (by kernel_rfl)).symm.trans h0_) (by decide), fun h0_ => absurd ((hoff 10 (by kernel_rfl)).symm.trans h0_) (by decide), fun h0_ => absurd ((hoff 4 (by kernel_rfl)).symm.trans h0_) (by decide), fun h0_ => absurd ((hoff 12 (by kernel_rfl)).symm.trans h0_) (by decide)⟩
          refine steps_cons ?_ ?_
          · rintro b a w' ⟨v461, adz_v461, v466, adz_v466, m4_, m12_, ha, Q_HO454, Q_HO459, Q_HB, Q_HO462, Q_HA_HO462, Q_HO467, Q_HA_HO467, Q_X4_, Q_X12_⟩ hb_ hon hoff
            refine ⟨_, rfl, fun K hK => ?_⟩
            have e29 : a.tmps[29]? = some (v461) := by rw [ha]; exact putSel_on (e := (2, 29, v461)) 1 rfl rfl (hon 2 (by kernel_rfl)) rfl
            have e30 : a.tmps[30]? = some (.int .i64 (rd y452 (ji4))) := by rw [ha]; exact (putSel_off rfl).trans rfl
            replace ha := Aside0.mk ha
            have HO454 := Aside0.mk Q_HO454
            have HO459 := Aside0.mk Q_HO459
            have HB := Aside0.mk Q_HB
            have HO462 := Aside0.mk (Q_HO462 (hon 2 (by kernel_rfl)))
            have HA_HO462 := Aside0.mk (Q_HA_HO462 (hon 2 (by kernel_rfl)))
            obtain ⟨c_, hv_⟩ := HA_HO462.out
            rw [hv_] at e29
            refine value_ (w1 := w') (v := .pointer (some (adz_v461.add ((rd y452 (ji4))).toNat))) (by rfl) rfl ?_ ?_
            · go_simp
              (try simp only [i64_w])
              try rfl
            refine hK.out _ _ ⟨v461, adz_v461, v466, adz_v466, (.pointer (some (adz_v461.add ((rd y452 (ji4))).toNat))), m12_, (by rw [ha.out]; exact putSel_upk 2 hb_ rfl rfl rfl), Q_HO454, Q_HO459, Q_HB, Q_HO462, Q_HA_HO462, fun h0_ => absurd ((hoff 10 (by kernel_rfl)).symm.trans h0_) (by decide), fun h0_ => absurd ((hoff 10 (by kernel_rfl)).symm.trans h0_) (by decide), fun _ => rfl, fun h0_ => absurd ((hoff 12 (by kernel_rfl)).symm.trans h0_) (by decide)⟩
          refine steps_cons ?_ ?_
          · rintro b a w' ⟨v461, adz_v461, v466, adz_v466, m4_, m12_, ha, Q_HO454, Q_HO459, Q_HB, Q_HO462, Q_HA_HO462, Q_HO467, Q_HA_HO467, Q_X4_, Q_X12_⟩ hb_ hon hoff
            refine ⟨_, rfl, fun K hK => ?_⟩
            have e31 : a.tmps[31]? = some (m4_) := by rw [ha]; exact putSel_on (e := (4, 31, m4_)) 2 rfl rfl (hon 4 (by kernel_rfl)) rfl
            rw [Q_X4_ (hon 4 (by kernel_rfl))] at e31
            replace ha := Aside0.mk ha
            have HO454 := Aside0.mk Q_HO454
            have HO459 := Aside0.mk Q_HO459
            have HB := Aside0.mk Q_HB
            have HO462 := Aside0.mk (Q_HO462 (hon 2 (by kernel_rfl)))
            have HA_HO462 := Aside0.mk (Q_HA_HO462 (hon 2 (by kernel_rfl)))
            obtain ⟨c_, hv_⟩ := HA_HO462.out
            have hF_ := HO462.out
            rw [hv_] at hF_
            obtain ⟨ad_, ea_, hx_⟩ := Kd.at_int (Kd.R_reads' hF_).2.2 (rd y452 (ji4)) (of_eq_true pi463) (of_eq_true qi463)
            cases ea_
            refine value_ (w1 := w') (v := .int .i64 (rd y460 (rd y452 (ji4)))) (by rfl) rfl ?_ ?_
            · go_simp
              (try simp only [i64_w])
              try rfl
            refine hK.out _ _ ⟨v461, adz_v461, v466, adz_v466, m4_, m12_, (by rw [ha.out]; exact putSel_upk 3 hb_ rfl rfl rfl), Q_HO454, Q_HO459, Q_HB, Q_HO462, Q_HA_HO462, fun h0_ => absurd ((hoff 10 (by kernel_rfl)).symm.trans h0_) (by decide), fun h0_ => absurd ((hoff 10 (by kernel_rfl)).symm.trans h0_) (by decide), Q_X4_, fun h0_ => absurd ((hoff 12 (by kernel_rfl)).symm.trans h0_) (by decide)⟩
          refine steps_cons ?_ ?_
          · rintro b a w' ⟨v461, adz_v461, v466, adz_v466, m4_, m12_, ha, Q_HO454, Q_HO459, Q_HB, Q_HO462, Q_HA_HO462, Q_HO467, Q_HA_HO467, Q_X4_, Q_X12_⟩ hb_ hon hoff
            refine ⟨_, rfl, fun K hK => ?_⟩
            have e28 : a.tmps[28]? = some (.int .i64 (t457.length : Int)) := by rw [ha]; exact putSel_on (e := (1, 28, .int .i64 (t457.length : Int))) 0 rfl rfl (hon 1 (by kernel_rfl)) rfl
            have e32 : a.tmps[32]? = some (.int .i64 (rd y460 (rd y452 (ji4)))) := by rw [ha]; exact putSel_on (e := (5, 32, .int .i64 (rd y460 (rd y452 (ji4))))) 3 rfl rfl (hon 5 (by kernel_rfl)) rfl
            replace ha := Aside0.mk ha
            have HO454 := Aside0.mk Q_HO454
            have HO459 := Aside0.mk Q_HO459
            have HB := Aside0.mk Q_HB
            have HO462 := Aside0.mk (Q_HO462 (hon 2 (by kernel_rfl)))
            have HA_HO462 := Aside0.mk (Q_HA_HO462 (hon 2 (by kernel_rfl)))
            refine value_ (w1 := w') (v := .bool ((t457.length : Int) != (rd y460 (rd y452 (ji4))))) (by rfl) rfl ?_ ?_
            · go_simp
              (try simp only [i64_w])
              try rfl
            refine hK.out _ _ ⟨v461, adz_v461, v466, adz_v466, m4_, m12_, (by rw [ha.out]; exact putSel_upk 4 hb_ rfl rfl rfl), Q_HO454, Q_HO459, Q_HB, Q_HO462, Q_HA_HO462, fun h0_ => absurd ((hoff 10 (by kernel_rfl)).symm.trans h0_) (by decide), fun h0_ => absurd ((hoff 10 (by kernel_rfl)).symm.trans h0_) (by decide), Q_X4_, fun h0_ => absurd ((hoff 12 (by kernel_rfl)).symm.trans h0_) (by decide)⟩
          refine steps_cons ?_ ?_
          · rintro b a w' ⟨v461, adz_v461, v466, adz_v466, m4_, m12_, ha, Q_HO454, Q_HO459, Q_HB, Q_HO462, Q_HA_HO462, Q_HO467, Q_HA_HO467, Q_X4_, Q_X12_⟩ hb_ hon hoff
            refine ⟨_, rfl, fun K hK => ?_⟩
            have e33 : a.tmps[33]? = some (.bool ((t457.length : Int) != (rd y460 (rd y452 (ji4))))) := by rw [ha]; exact putSel_on (e := (6, 33, .bool ((t457.length : Int) != (rd y460 (rd y452 (ji4)))))) 4 rfl rfl (hon 6 (by kernel_rfl)) rfl
            replace ha := Aside0.mk ha
            have HO454 := Aside0.mk Q_HO454
            have HO459 := Aside0.mk Q_HO459
            have HB := Aside0.mk Q_HB
            have HO462 := Aside0.mk (Q_HO462 (hon 2 (by kernel_rfl)))
            have HA_HO462 := Aside0.mk (Q_HA_HO462 (hon 2 (by kernel_rfl)))
            refine value_ (w1 := w') (v := .bool ((t457.length : Int) != (rd y460 (rd y452 (ji4))))) (by rfl) rfl ?_ ?_
            · go_simp
              (try simp only [i64_w])
              try rfl
            refine hK.out _ _ ⟨v461, adz_v461, v466, adz_v466, m4_, m12_, (by rw [ha.out]; exact putSel_upk 5 hb_ rfl rfl rfl), Q_HO454, Q_HO459, Q_HB, Q_HO462, Q_HA_HO462, fun h0_ => absurd ((hoff 10 (by kernel_rfl)).symm.trans h0_) (by decide), fun h0_ => absurd ((hoff 10 (by kernel_rfl)).symm.trans h0_) (by decide), Q_X4_, fun h0_ => absurd ((hoff 12 (by kernel_rfl)).symm.trans h0_) (by decide)⟩
          refine steps_cons ?_ ?_
          · rintro b a w' ⟨v461, adz_v461, v466, adz_v466, m4_, m12_, ha, Q_HO454, Q_HO459, Q_HB, Q_HO462, Q_HA_HO462, Q_HO467, Q_HA_HO467, Q_X4_, Q_X12_⟩ hb_ hon hoff
            refine ⟨_, rfl, fun K hK => ?_⟩
            have e3 : a.tmps[3]? = some (.int .i64 (rd y452 (ji4))) := by rw [ha]; exact (putSel_off rfl).trans rfl
            have e34 : a.tmps[34]? = some (.bool ((t457.length : Int) != (rd y460 (rd y452 (ji4))))) := by rw [ha]; exact putSel_on (e := (7, 34, .bool ((t457.length : Int) != (rd y460 (rd y452 (ji4)))))) 5 rfl rfl (hon 7 (by kernel_rfl)) rfl
            replace ha := Aside0.mk ha
            have HO454 := Aside0.mk Q_HO454
            have HO459 := Aside0.mk Q_HO459
            have HB := Aside0.mk Q_HB
            have HO462 := Aside0.mk (Q_HO462 (hon 2 (by kernel_rfl)))
            have HA_HO462 := Aside0.mk (Q_HA_HO462 (hon 2 (by kernel_rfl)))
            refine value_ (w1 := w') (v := .int .i64 (rd y452 (ji4))) (wanted_on rfl rfl rfl (e34.trans (by first | rfl | (simp [*]; done)))) rfl ?_ ?_
            · go_simp
              (try simp only [i64_w])
              try rfl
            refine hK.out _ _ ⟨v461, adz_v461, v466, adz_v466, m4_, m12_, (by rw [ha.out]; exact putSel_upk 6 hb_ rfl rfl rfl), Q_HO454, Q_HO459, Q_HB, Q_HO462, Q_HA_HO462, Q_HO467, Q_HA_HO467, Q_X4_, Q_X12_⟩
          refine steps_cons ?_ ?_
          · rintro b a w' ⟨v461, adz_v461, v466, adz_v466, m4_, m12_, ha, Q_HO454, Q_HO459, Q_HB, Q_HO462, Q_HA_HO462, Q_HO467, Q_HA_HO467, Q_X4_, Q_X12_⟩ hb_ hon hoff
            refine ⟨_, rfl, fun K hK => ?_⟩
            have e35 : a.tmps[35]? = some (.int .i64 (rd y452 (ji4))) := by rw [ha]; exact putSel_on (e := (8, 35, .int .i64 (rd y452 (ji4)))) 6 rfl rfl (hon 8 (by kernel_rfl)) rfl
            have e34 : a.tmps[34]? = some (.bool ((t457.length : Int) != (rd y460 (rd y452 (ji4))))) := by rw [ha]; exact putSel_on (e := (7, 34, .bool ((t457.length : Int) != (rd y460 (rd y452 (ji4)))))) 5 rfl rfl (hon 7 (by kernel_rfl)) rfl
            replace ha := Aside0.mk ha
            have HO454 := Aside0.mk Q_HO454
            have HO459 := Aside0.mk Q_HO459
            have HB := Aside0.mk Q_HB
            have HO462 := Aside0.mk (Q_HO462 (hon 2 (by kernel_rfl)))
            have HA_HO462 := Aside0.mk (Q_HA_HO462 (hon 2 (by kernel_rfl)))
            obtain ⟨co25, eo25⟩ := HA_HO462.out
            clear HA_HO462
            subst eo25
            refine gO_ Try.func13 #[.int .i64 (rd y452 (ji4))] (wanted_on rfl rfl rfl (e34.trans (by first | rfl | (simp [*]; done)))) rfl rfl (by (try simp only [List.map_toArray, List.map_cons, List.map_nil]); first | done | (go_simp; done) | (go_simp; rfl) | (simp only [hji4]; rfl) | rfl | (simp only [List.length_drop, List.length_take]; rfl)) ?_
            with_reducible refine (impl_CountTori.calls k (rd y452 (ji4)) t464 _ A17.out).mono ?_
            rintro e w26 ⟨rfl, hb⟩
            refine ⟨_, rfl, ?_⟩
            have n0_ := rb_ HO454 hb
            have n1_ := Aside0.mk (Kd.N_below (by (with_reducible repeat (first | apply Kd.N_alloc | apply Kd.N_drewN | apply Kd.N_drew)); exact HO459.out) hb)
            have n2_ := rb_ HO462 hb
            have n3_ := b1_ hb
            have z_HO467 := fun (h0_ : b 10 = true) => (show Kd.R (Kd.int .i64) 3 w26 w.heap.size (fun k_ => some k_ ≠ (.slice (some ad456) y452.length co12 : Value).ownBlock) v466 y465 from by first | exact (Kd.R_below (rw_ (Q_HO467 h0_)) hb) | exact Kd.R_mono (Kd.R_below (rw_ (Q_HO467 h0_)) hb) (fun _ h_ => by first | trivial | exact h_ | exact h_.1))
            clear HO454
            clear HO459
            clear HO462
            clear HB
            have HO454 := n0_
            have HO459 := n1_
            have HO462 := n2_
            have HB := n3_
            clear n0_ n1_ n2_ n3_
            clear hb
            refine hK.out _ _ ⟨.slice (some adz_v461) y460.length co25, adz_v461, v466, adz_v466, m4_, m12_, (by rw [ha.out]; exact putSel_upk 7 hb_ rfl rfl rfl), (rw_ (Kd.R_mono HO454.out laws_FnListed.ay)), (by (with_reducible repeat (first | apply Kd.N_alloc | apply Kd.N_drewN | apply Kd.N_drew)); exact Kd.N_mono HO459.out laws_FnListed.ay), hB_, fun _ => (rw_ (Kd.R_mono HO462.out laws_FnListed.ay)), fun _ => ⟨_, rfl⟩, z_HO467, Q_HA_HO467, Q_X4_, Q_X12_⟩
          refine steps_cons ?_ ?_
          · rintro b a w' ⟨v461, adz_v461, v466, adz_v466, m4_, m12_, ha, Q_HO454, Q_HO459, Q_HB, Q_HO462, Q_HA_HO462, Q_HO467, Q_HA_HO467, Q_X4_, Q_X12_⟩ hb_ hon hoff
            refine ⟨_, rfl, fun K hK => ?_⟩
            have e34 : a.tmps[34]? = some (.bool ((t457.length : Int) != (rd y460 (rd y452 (ji4))))) := by rw [ha]; exact putSel_on (e := (7, 34, .bool ((t457.length : Int) != (rd y460 (rd y452 (ji4)))))) 5 rfl rfl (hon 7 (by kernel_rfl)) rfl
            replace ha := Aside0.mk ha
            have HO454 := Aside0.mk Q_HO454
            have HO459 := Aside0.mk Q_HO459
            have HB := Aside0.mk Q_HB
            have HO462 := Aside0.mk (Q_HO462 (hon 2 (by kernel_rfl)))
            have HA_HO462 := Aside0.mk (Q_HA_HO462 (hon 2 (by kernel_rfl)))
            obtain ⟨co25, eo25⟩ := HA_HO462.out
            clear HA_HO462
            subst eo25
            refine Kd.R_lit_step (Kd.int .i64) _ 3 ?hg (N := 37) ?hd (xs := ([0, 1, 3, 4, 7] : List Int)) (inner := [.int .i64 0, .int .i64 1, .int .i64 3, .int .i64 4, .int .i64 7]) (ok := fun _ => True) (okp := fun _ => True) ?hr ?hp (fun _ hk => hk) trivial (Below.refl _ _) (Nat.le_refl _) (by simp) ?_; (case hd => rfl); (case hg => exact (wanted_on rfl rfl rfl (e34.trans (by first | rfl | (simp [*]; done))))); (case hr => first | (go_simp; done) | (go_simp; rfl)); (case hp => exact (Reps.one (show Kd.M (Kd.int .i64) _ _ _ 0 [.int .i64 0] from rfl) (Reps.one (show Kd.M (Kd.int .i64) _ _ _ 1 [.int .i64 1] from rfl) (Reps.one (show Kd.M (Kd.int .i64) _ _ _ 3 [.int .i64 3] from rfl) (Reps.one (show Kd.M (Kd.int .i64) _ _ _ 4 [.int .i64 4] from rfl) (Reps.one (show Kd.M (Kd.int .i64) _ _ _ 7 [.int .i64 7] from rfl) (Reps.none _ _)))))))
            intro v466 w26 ho27 hb hg_ hnew_
            clear hg_ hnew_
            (first | rw [← Ny465.out] at ho27 | (simp only [Int.reduceToNat] at ho27; rw [← Ny465.out] at ho27))
            replace HO459 := Aside0.mk (Kd.N_elder' (by (with_reducible repeat (first | apply Kd.N_alloc | apply Kd.N_drewN | apply Kd.N_drew)); exact HO459.out) (Kd.R_base ho27) hb)
            have HO467 := Aside0.mk (Kd.R_lower (Kd.R_new' (Kd.R_new' ho27 (Kd.R_lt (rr_ HO454))) (Kd.R_lt (rr_ HO462))) (below_size hB_))
            replace HO454 := Aside0.mk (Kd.R_elder' (rr_ HO454) (Kd.R_base ho27) hb)
            replace HO462 := Aside0.mk (Kd.R_elder' (rr_ HO462) (Kd.R_base ho27) hb)
            replace HB := b1_ hb
            clear hb ho27
            obtain ⟨Ao28, co28, eo28⟩ := Kd.R_slice HO467.out
            subst eo28
            obtain ⟨ado28, fo28, _⟩ := Kd.at_int (Kd.R_reads' HO467.out).2.2 0 (by decide) (by rw [Ny465.out]; simp)
            cases fo28
            refine hK.out _ _ ⟨.slice (some adz_v461) y460.length co25, adz_v461, .slice (some ado28) y465.length co28, ado28, m4_, m12_, (by rw [ha.out]; exact putSel_upk 8 hb_ rfl rfl rfl), (rw_ (Kd.R_mono HO454.out laws_FnListed.ay)), (by (with_reducible repeat (first | apply Kd.N_alloc | apply Kd.N_drewN | apply Kd.N_drew)); exact Kd.N_mono HO459.out laws_FnListed.ay), hB_, fun _ => (rw_ (Kd.R_mono HO462.out laws_FnListed.ay)), fun _ => ⟨_, rfl⟩, fun _ => (rw_ (Kd.R_mono HO467.out laws_FnListed.ay)), fun _ => ⟨_, rfl⟩, Q_X4_, fun h0_ => absurd ((hoff 12 (by kernel_rfl)).symm.trans h0_) (by decide)⟩
          refine steps_cons ?_ ?_
          · rintro b a w' ⟨v461, adz_v461, v466, adz_v466, m4_, m12_, ha, Q_HO454, Q_HO459, Q_HB, Q_HO462, Q_HA_HO462, Q_HO467, Q_HA_HO467, Q_X4_, Q_X12_⟩ hb_ hon hoff
            refine ⟨_, rfl, fun K hK => ?_⟩
            have e3 : a.tmps[3]? = some (.int .i64 (rd y452 (ji4))) := by rw [ha]; exact (putSel_off rfl).trans rfl
            have e34 : a.tmps[34]? = some (.bool ((t457.length : Int) != (rd y460 (rd y452 (ji4))))) := by rw [ha]; exact putSel_on (e := (7, 34, .bool ((t457.length : Int) != (rd y460 (rd y452 (ji4)))))) 5 rfl rfl (hon 7 (by kernel_rfl)) rfl
            replace ha := Aside0.mk ha
            have HO454 := Aside0.mk Q_HO454
            have HO459 := Aside0.mk Q_HO459
            have HB := Aside0.mk Q_HB
            have HO462 := Aside0.mk (Q_HO462 (hon 2 (by kernel_rfl)))
            have HA_HO462 := Aside0.mk (Q_HA_HO462 (hon 2 (by kernel_rfl)))
            refine value_ (w1 := w') (v := .int .i64 (rd y452 (ji4))) (wanted_on rfl rfl rfl (e34.trans (by first | rfl | (simp [*]; done)))) rfl ?_ ?_
            · go_simp
              (try simp only [i64_w])
              try rfl
            refine hK.out _ _ ⟨v461, adz_v461, v466, adz_v466, m4_, m12_, (by rw [ha.out]; exact putSel_upk 9 hb_ rfl rfl rfl), Q_HO454, Q_HO459, Q_HB, Q_HO462, Q_HA_HO462, Q_HO467, Q_HA_HO467, Q_X4_, fun h0_ => absurd ((hoff 12 (by kernel_rfl)).symm.trans h0_) (by decide)⟩
          refine steps_cons ?_ ?_
          · rintro b a w' ⟨v461, adz_v461, v466, adz_v466, m4_, m12_, ha, Q_HO454, Q_HO459, Q_HB, Q_HO462, Q_HA_HO462, Q_HO467, Q_HA_HO467, Q_X4_, Q_X12_⟩ hb_ hon hoff
            refine ⟨_, rfl, fun K hK => ?_⟩
            have e37 : a.tmps[37]? = some (v466) := by rw [ha]; exact putSel_on (e := (10, 37, v466)) 8 rfl rfl (hon 10 (by kernel_rfl)) rfl
            have e38 : a.tmps[38]? = some (.int .i64 (rd y452 (ji4))) := by rw [ha]; exact putSel_on (e := (11, 38, .int .i64 (rd y452 (ji4)))) 9 rfl rfl (hon 11 (by kernel_rfl)) rfl
            have e34 : a.tmps[34]? = some (.bool ((t457.length : Int) != (rd y460 (rd y452 (ji4))))) := by rw [ha]; exact putSel_on (e := (7, 34, .bool ((t457.length : Int) != (rd y460 (rd y452 (ji4)))))) 5 rfl rfl (hon 7 (by kernel_rfl)) rfl
            replace ha := Aside0.mk ha
            have HO454 := Aside0.mk Q_HO454
            have HO459 := Aside0.mk Q_HO459
            have HB := Aside0.mk Q_HB
            have HO462 := Aside0.mk (Q_HO462 (hon 2 (by kernel_rfl)))
            have HA_HO462 := Aside0.mk (Q_HA_HO462 (hon 2 (by kernel_rfl)))
            have HO467 := Aside0.mk (Q_HO467 (hon 10 (by kernel_rfl)))
            have HA_HO467 := Aside0.mk (Q_HA_HO467 (hon 10 (by kernel_rfl)))
            obtain ⟨c_, hv_⟩ := HA_HO467.out
            rw [hv_] at e37
            refine value_ (w1 := w') (v := .pointer (some (adz_v466.add ((rd y452 (ji4))).toNat))) (wanted_on rfl rfl rfl (e34.trans (by first | rfl | (simp [*]; done)))) rfl ?_ ?_
            · go_simp
              (try simp only [i64_w])
              try rfl
            refine hK.out _ _ ⟨v461, adz_v461, v466, adz_v466, m4_, (.pointer (some (adz_v466.add ((rd y452 (ji4))).toNat))), (by rw [ha.out]; exact putSel_upk 10 hb_ rfl rfl rfl), Q_HO454, Q_HO459, Q_HB, Q_HO462, Q_HA_HO462, Q_HO467, Q_HA_HO467, Q_X4_, fun _ => rfl⟩
          refine steps_cons ?_ ?_
          · rintro b a w' ⟨v461, adz_v461, v466, adz_v466, m4_, m12_, ha, Q_HO454, Q_HO459, Q_HB, Q_HO462, Q_HA_HO462, Q_HO467, Q_HA_HO467, Q_X4_, Q_X12_⟩ hb_ hon hoff
            refine ⟨_, rfl, fun K hK => ?_⟩
            have e39 : a.tmps[39]? = some (m12_) := by rw [ha]; exact putSel_on (e := (12, 39, m12_)) 10 rfl rfl (hon 12 (by kernel_rfl)) rfl
            rw [Q_X12_ (hon 12 (by kernel_rfl))] at e39
            have e34 : a.tmps[34]? = some (.bool ((t457.length : Int) != (rd y460 (rd y452 (ji4))))) := by rw [ha]; exact putSel_on (e := (7, 34, .bool ((t457.length : Int) != (rd y460 (rd y452 (ji4)))))) 5 rfl rfl (hon 7 (by kernel_rfl)) rfl
            replace ha := Aside0.mk ha
            have HO454 := Aside0.mk Q_HO454
            have HO459 := Aside0.mk Q_HO459
            have HB := Aside0.mk Q_HB
            have HO462 := Aside0.mk (Q_HO462 (hon 2 (by kernel_rfl)))
            have HA_HO462 := Aside0.mk (Q_HA_HO462 (hon 2 (by kernel_rfl)))
            have HO467 := Aside0.mk (Q_HO467 (hon 10 (by kernel_rfl)))
            have HA_HO467 := Aside0.mk (Q_HA_HO467 (hon 10 (by kernel_rfl)))
            obtain ⟨c_, hv_⟩ := HA_HO467.out
            have hF_ := HO467.out
            rw [hv_] at hF_
            obtain ⟨ad_, ea_, hx_⟩ := Kd.at_int (Kd.R_reads' hF_).2.2 (rd y452 (ji4)) (of_eq_true pi468) (of_eq_true qi468)
            cases ea_
            refine value_ (w1 := w') (v := .int .i64 (rd y465 (rd y452 (ji4)))) (wanted_on rfl rfl rfl (e34.trans (by first | rfl | (simp [*]; done)))) rfl ?_ ?_
            · go_simp
              (try simp only [i64_w])
              try rfl
            refine hK.out _ _ ⟨v461, adz_v461, v466, adz_v466, m4_, m12_, (by rw [ha.out]; exact putSel_upk 11 hb_ rfl rfl rfl), Q_HO454, Q_HO459, Q_HB, Q_HO462, Q_HA_HO462, Q_HO467, Q_HA_HO467, Q_X4_, Q_X12_⟩
          refine steps_cons ?_ ?_
          · rintro b a w' ⟨v461, adz_v461, v466, adz_v466, m4_, m12_, ha, Q_HO454, Q_HO459, Q_HB, Q_HO462, Q_HA_HO462, Q_HO467, Q_HA_HO467, Q_X4_, Q_X12_⟩ hb_ hon hoff
            refine ⟨_, rfl, fun K hK => ?_⟩
            have e36 : a.tmps[36]? = some (.int .i64 t464) := by rw [ha]; exact putSel_on (e := (9, 36, .int .i64 t464)) 7 rfl rfl (hon 9 (by kernel_rfl)) rfl
            have e40 : a.tmps[40]? = some (.int .i64 (rd y465 (rd y452 (ji4)))) := by rw [ha]; exact putSel_on (e := (13, 40, .int .i64 (rd y465 (rd y452 (ji4))))) 11 rfl rfl (hon 13 (by kernel_rfl)) rfl
            have e34 : a.tmps[34]? = some (.bool ((t457.length : Int) != (rd y460 (rd y452 (ji4))))) := by rw [ha]; exact putSel_on (e := (7, 34, .bool ((t457.length : Int) != (rd y460 (rd y452 (ji4)))))) 5 rfl rfl (hon 7 (by kernel_rfl)) rfl
            replace ha := Aside0.mk ha
            have HO454 := Aside0.mk Q_HO454
            have HO459 := Aside0.mk Q_HO459
            have HB := Aside0.mk Q_HB
            have HO462 := Aside0.mk (Q_HO462 (hon 2 (by kernel_rfl)))
            have HA_HO462 := Aside0.mk (Q_HA_HO462 (hon 2 (by kernel_rfl)))
            have HO467 := Aside0.mk (Q_HO467 (hon 10 (by kernel_rfl)))
            have HA_HO467 := Aside0.mk (Q_HA_HO467 (hon 10 (by kernel_rfl)))
            refine value_ (w1 := w') (v := .bool (t464 != (rd y465 (rd y452 (ji4))))) (wanted_on rfl rfl rfl (e34.trans (by first | rfl | (simp [*]; done)))) rfl ?_ ?_
            · go_simp
              (try simp only [i64_w])
              try rfl
            refine hK.out _ _ ⟨v461, adz_v461, v466, adz_v466, m4_, m12_, (by rw [ha.out]; exact putSel_upk 12 hb_ rfl rfl rfl), Q_HO454, Q_HO459, Q_HB, Q_HO462, Q_HA_HO462, Q_HO467, Q_HA_HO467, Q_X4_, Q_X12_⟩
          refine steps_cons ?_ ?_
          · rintro b a w' ⟨v461, adz_v461, v466, adz_v466, m4_, m12_, ha, Q_HO454, Q_HO459, Q_HB, Q_HO462, Q_HA_HO462, Q_HO467, Q_HA_HO467, Q_X4_, Q_X12_⟩ hb_ hon hoff
            refine ⟨_, rfl, fun K hK => ?_⟩
            have e34 : a.tmps[34]? = some (.bool ((t457.length : Int) != (rd y460 (rd y452 (ji4))))) := by rw [ha]; exact putSel_on (e := (7, 34, .bool ((t457.length : Int) != (rd y460 (rd y452 (ji4)))))) 5 rfl rfl (hon 7 (by kernel_rfl)) rfl
            have e41 : a.tmps[41]? = some (.bool (t464 != (rd y465 (rd y452 (ji4))))) := by rw [ha]; exact putSel_on (e := (14, 41, .bool (t464 != (rd y465 (rd y452 (ji4)))))) 12 rfl rfl (hon 14 (by kernel_rfl)) rfl
            replace ha := Aside0.mk ha
            have HO454 := Aside0.mk Q_HO454
            have HO459 := Aside0.mk Q_HO459
            have HB := Aside0.mk Q_HB
            have HO462 := Aside0.mk (Q_HO462 (hon 2 (by kernel_rfl)))
            have HA_HO462 := Aside0.mk (Q_HA_HO462 (hon 2 (by kernel_rfl)))
            have HO467 := Aside0.mk (Q_HO467 (hon 10 (by kernel_rfl)))
            have HA_HO467 := Aside0.mk (Q_HA_HO467 (hon 10 (by kernel_rfl)))
            refine value_ (w1 := w') (v := .bool (t464 != (rd y465 (rd y452 (ji4))))) (by rfl) rfl ?_ ?_
            · go_simp
              (try simp only [i64_w])
              try rfl
            refine hK.out _ _ ⟨v461, adz_v461, v466, adz_v466, m4_, m12_, (by rw [ha.out]; exact putSel_upk 13 hb_ rfl rfl rfl), Q_HO454, Q_HO459, Q_HB, Q_HO462, Q_HA_HO462, Q_HO467, Q_HA_HO467, Q_X4_, Q_X12_⟩
          exact steps_nil
        rintro b a w28 hall ⟨v461, adz_v461, v466, adz_v466, m4_, m12_, ha, Q_HO454, Q_HO459, Q_HB, Q_HO462, Q_HA_HO462, Q_HO467, Q_HA_HO467, Q_X4_, Q_X12_⟩
        clear HB HO454 HO459
        have hb1_ := hall 1 (by kernel_rfl)
        have hb2_ := hall 2 (by kernel_rfl)
        have hb4_ := hall 4 (by kernel_rfl)
        have hb5_ := hall 5 (by kernel_rfl)
        have hb6_ := hall 6 (by kernel_rfl)
        have hb7_ := hall 7 (by kernel_rfl)
        have hb8_ := hall 8 (by kernel_rfl)
        have hb9_ := hall 9 (by kernel_rfl)
        have hb10_ := hall 10 (by kernel_rfl)
        have hb11_ := hall 11 (by kernel_rfl)
        have hb12_ := hall 12 (by kernel_rfl)
        have hb13_ := hall 13 (by kernel_rfl)
        have hb14_ := hall 14 (by kernel_rfl)
        have hb15_ := hall 15 (by kernel_rfl)
        subst ha
        obtain rfl := Q_X4_ hb4_
        obtain rfl := Q_X12_ hb12_
        simp only [putSel, hb1_, hb2_, hb4_, hb5_, hb6_, hb7_, hb8_, hb9_, hb10_, hb11_, hb12_, hb13_, hb14_, hb15_, if_true, Act.put, List.setIfInBounds_toArray, List.set_cons_zero, List.set_cons_succ]
        have HO454 := Aside0.mk Q_HO454
        clear Q_HO454
        have HO459 := Aside0.mk Q_HO459
        clear Q_HO459
        have HB := Aside0.mk Q_HB
        clear Q_HB
        have HO462 := Aside0.mk (Q_HO462 hb2_)
        clear Q_HO462
        have HA_HO462 := Aside0.mk (Q_HA_HO462 hb2_)
        clear Q_HA_HO462
        have HO467 := Aside0.mk (Q_HO467 hb10_)
        clear Q_HO467
        have HA_HO467 := Aside0.mk (Q_HA_HO467 hb10_)
        clear Q_HA_HO467
        clear hall hb1_ hb2_ hb4_ hb5_ hb6_ hb7_ hb8_ hb9_ hb10_ hb11_ hb12_ hb13_ hb14_ hb15_
        obtain ⟨co29, eo29⟩ := HA_HO462.out
        clear HA_HO462
        subst eo29
        obtain ⟨co30, eo30⟩ := HA_HO467.out
        clear HA_HO467
        subst eo30
        try go_wp2
        go_meet
        case rel => exact ⟨_, ((t464 != (rd y465 (rd y452 (ji4))))), (by first | rfl | (simp; done) | (simp only [← hji4] <;> (first | rfl | simp)) | (simp [*]; done)), H', ⟨qd_⟩, ⟨by (with_reducible repeat (first | apply Kd.N_alloc | apply Kd.N_drewN | apply Kd.N_drew)); exact Kd.N_mono HO459.out (fun _ hk => trivial)⟩, ⟨hB_⟩⟩
      · rw [if_neg c16] at H
        have c16b0 : ((t457.length : Int) == (rd y460 (rd y452 (ji4)))) = false := beq_eq_false_iff_ne.mpr c16
        have c16b1 : ((t457.length : Int) != (rd y460 (rd y452 (ji4)))) = true := bne_iff_ne.mpr c16
        have H' := Aside0.mk H
        clear H
        try go_wp2
        have pi463 : (0 ≤ ((rd y452 (ji4)) : Int)) = True := eq_true (of_decide_eq_true qe_)
        have qi463 : ((rd y452 (ji4)) < (y460.length : Int)) = True := eq_true (of_decide_eq_true qe_)
        replace HO454 := Aside0.mk (Kd.R_drew HO454.out)
        replace HO459 := Aside0.mk (Kd.N_drew HO459.out)
        replace HB := Aside0.mk (below_drew1 HB.out)
        obtain ⟨Ao32, co32, eo32⟩ := Kd.N_slice HO459.out
        (first | subst eo32 | (injection eo32 with f1_ f2_ f3_; have f4_ := f1_.symm; have f5_ := f3_.symm; clear f1_ f2_ f3_; subst f4_; subst f5_))
        refine start_ (n := 16) (S := fun w' => True) (ds := []) (bl_ 16 0) (by kernel_rfl) rfl (by kernel_rfl) trivial (fun hHeld => ?_); refine with_tabW laws_FnListed.tab5 laws_FnListed.bits5 (fun HT_ HW_ => ?_)
        generalize w13.drew = w31 at HO454 HO459 HB hHeld ⊢
        refine pu_ 0 (some 27) (bl_ 16 1) HT_ ?_
        refine pu_ 1 (some 28) (bl_ 16 3) HT_ ?_
        refine pu_ 3 (some 30) (bl_ 16 11) HT_ ?_
        refine on_ 2 (some 29) (bl_ 16 15) HT_ (fun K hK => ?_)
        refine Kd.R_lit_step (Kd.int .i64) _ 3 ?hg (N := 29) ?hd (xs := ([0, 1, 3, 7, 26] : List Int)) (inner := [.int .i64 0, .int .i64 1, .int .i64 3, .int .i64 7, .int .i64 26]) (ok := fun _ => True) (okp := fun _ => True) ?hr ?hp (fun _ hk => hk) trivial (Below.refl _ _) (Nat.le_refl _) (by simp) ?_; (case hd => rfl); (case hg => rfl); (case hr => first | (go_simp; done) | (go_simp; rfl)); (case hp => exact (Reps.one (show Kd.M (Kd.int .i64) _ _ _ 0 [.int .i64 0] from rfl) (Reps.one (show Kd.M (Kd.int .i64) _ _ _ 1 [.int .i64 1] from rfl) (Reps.one (show Kd.M (Kd.int .i64) _ _ _ 3 [.int .i64 3] from rfl) (Reps.one (show Kd.M (Kd.int .i64) _ _ _ 7 [.int .i64 7] from rfl) (Reps.one (show Kd.M (Kd.int .i64) _ _ _ 26 [.int .i64 26] from rfl) (Reps.none _ _)))))))
        intro v461 w33 ho34 hb hg_ hnew_
        clear hg_ hnew_
        (first | rw [← Ny460.out] at ho34 | (simp only [Int.reduceToNat] at ho34; rw [← Ny460.out] at ho34))
        replace HO459 := Aside0.mk (Kd.N_elder' (by (with_reducible repeat (first | apply Kd.N_alloc | apply Kd.N_drewN | apply Kd.N_drew)); exact HO459.out) (Kd.R_base ho34) hb)
        have HO462 := Aside0.mk (Kd.R_lower (Kd.R_new' ho34 (Kd.R_lt (rr_ HO454))) (below_size hB_))
        replace HO454 := Aside0.mk (Kd.R_elder' (rr_ HO454) (Kd.R_base ho34) hb)
        replace HB := b1_ hb
        clear hb ho34
        obtain ⟨Ao35, co35, eo35⟩ := Kd.R_slice HO462.out
        subst eo35
        obtain ⟨ado35, fo35, _⟩ := Kd.at_int (Kd.R_reads' HO462.out).2.2 0 (by decide) (by rw [Ny460.out]; simp)
        cases fo35
        refine hK.out _ _ trivial (fun hHeld => ?_)
        clear hK K
        refine no_ (some 29) ?_
        refine pu_ 4 (some 31) (bl_ 16 31) HT_ ?_
        refine on_ 5 (some 32) (bl_ 16 63) HT_ (fun K hK => ?_)
        (have p463 : 0 ≤ ((rd y452 (ji4)) : Int) := of_decide_eq_true qe_; have q463 : (rd y452 (ji4)) < (y460.length : Int) := of_decide_eq_true qe_; obtain ⟨ad463, e463, hx463_0⟩ := Kd.at_int (Kd.R_reads' HO462.out).2.2 (rd y452 (ji4)) p463 q463; obtain rfl : ado35 = ad463 := (by injection e463))
        refine value_ (w1 := ?_) (v := ?_) (by rfl) rfl ?_ ?_
        rotate_left 2
        · go_simp
          constructor
          · rfl
          · rfl
        clear hx463_0
        refine hK.out _ _ trivial (fun hHeld => ?_)
        clear hK K
        refine no_ (some 32) ?_
        refine pu_ 6 (some 33) (bl_ 16 127) HT_ ?_
        refine pu_ 7 (some 34) (bl_ 16 255) HT_ ?_
        refine pure_ (i := 8) (N := some 35) (v := undef) (a' := ?_) (bl_ 16 511) rfl rfl (any_of HT_.out (by kernel_rfl)) (fun _ _ _ h => h) (Or.inr ⟨by rfl, rfl⟩) ?_ ?_
        rotate_left
        · simp only [Act.put, List.setIfInBounds_toArray, List.set_cons_zero, List.set_cons_succ, i64_w, i32_w]
          rfl
        refine pure_ (i := 9) (N := some 36) (v := undef) (a' := ?_) (bl_ 16 1023) rfl rfl (any_of HT_.out (by kernel_rfl)) (fun _ _ _ h => h) (Or.inr ⟨by rfl, rfl⟩) ?_ ?_
        rotate_left
        · simp only [Act.put, List.setIfInBounds_toArray, List.set_cons_zero, List.set_cons_succ, i64_w, i32_w]
          rfl
        refine pure_ (i := 10) (N := some 37) (v := undef) (a' := ?_) (bl_ 16 2047) rfl rfl (any_of HT_.out (by kernel_rfl)) (fun _ _ _ h => h) (Or.inr ⟨by rfl, rfl⟩) ?_ ?_
        rotate_left
        · simp only [Act.put, List.setIfInBounds_toArray, List.set_cons_zero, List.set_cons_succ, i64_w, i32_w]
          rfl
        refine pure_ (i := 11) (N := some 38) (v := undef) (a' := ?_) (bl_ 16 4095) rfl rfl (any_of HT_.out (by kernel_rfl)) (fun _ _ _ h => h) (Or.inr ⟨by rfl, rfl⟩) ?_ ?_
        rotate_left
        · simp only [Act.put, List.setIfInBounds_toArray, List.set_cons_zero, List.set_cons_succ, i64_w, i32_w]
          rfl
        refine pure_ (i := 12) (N := some 39) (v := undef) (a' := ?_) (bl_ 16 8191) rfl rfl (any_of HT_.out (by kernel_rfl)) (fun _ _ _ h => h) (Or.inr ⟨by rfl, rfl⟩) ?_ ?_
        rotate_left
        · simp only [Act.put, List.setIfInBounds_toArray, List.set_cons_zero, List.set_cons_succ, i64_w, i32_w]
          rfl
        refine pure_ (i := 13) (N := some 40) (v := undef) (a' := ?_) (bl_ 16 16383) rfl rfl (any_of HT_.out (by kernel_rfl)) (fun _ _ _ h => h) (Or.inr ⟨by rfl, rfl⟩) ?_ ?_
        rotate_left
        · simp only [Act.put, List.setIfInBounds_toArray, List.set_cons_zero, List.set_cons_succ, i64_w, i32_w]
          rfl
        refine pure_ (i := 14) (N := some 41) (v := undef) (a' := ?_) (bl_ 16 32767) rfl rfl (any_of HT_.out (by kernel_rfl)) (fun _ _ _ h => h) (Or.inr ⟨by rfl, rfl⟩) ?_ ?_
        rotate_left
        · simp only [Act.put, List.setIfInBounds_toArray, List.set_cons_zero, List.set_cons_succ, i64_w, i32_w]
          rfl
        refine pu_ 15 (some 42) (bl_ 16 65535) HT_ ?_
        refine done_ (done_of HT_.out (by kernel_rfl)) ?_
        try go_wp2
        go_meet
        case rel => exact ⟨_, (true), qc_, H', ⟨qd_⟩, ⟨by (with_reducible repeat (first | apply Kd.N_alloc | apply Kd.N_drewN | apply Kd.N_drew)); exact Kd.N_mono HO459.out (fun _ hk => trivial)⟩, ⟨hB_⟩⟩
    case rest =>
      clear HC8
      obtain ⟨kq, x42_7, rfl, HA, HJ7, HO_4, HB⟩ := hcut
      cases kq with
      | zero => exact absurd HA.out (by simp [laws_FnListed.j0])
      | succ kj7 =>
        have H := HA.out
        clear HA
        simp only [laws_FnListed.j0] at H
        by_cases c36 : x42_7 = true
        · subst c36
          rw [if_pos rfl] at H
          exact absurd (Option.some.inj H) (by rw [hr1_.out]; decide)
        · replace c36 := Bool.eq_false_iff.mpr c36
          subst c36
          have H1 : ((impl_StrataWith.f kj7 (rd y452 (ji4))).bind fun t469 => (laws_FnListed.l0 kj7 l0 (rd y452 (ji4)) t457 0 t469 (t469.length : Int) 0)) = some r := by rw [if_neg (show ¬ (false = true) by decide)] at H; exact H
          clear H
          have H := H1
          clear H1
          obtain ⟨t469, A37, H⟩ := bi_ H
          have H' := Aside0.mk H
          clear H
          go_wp2_with (first | ((with_reducible refine gate_callee (f := 14) rfl ?_); refine gL_ (some 44) Try.func14 #[.int .i64 (rd y452 (ji4))] rfl (by (try simp only [List.map_toArray, List.map_cons, List.map_nil]); first | done | (simp only [hji4]; rfl) | rfl | (simp only [List.length_drop, List.length_take]; rfl)) ?_; (with_reducible refine (impl_StrataWith.calls kj7 (rd y452 (ji4)) t469 _ A37.out).mono ?_); rintro e w38 ⟨v470, rfl, ho0, hb⟩; refine ⟨_, rfl, ?_⟩; have HO471 := Aside0.mk (Kd.N_lower (Kd.N_mono (ok' := fun k_ => some k_ ≠ (v458 : Value).ownBlock) (Kd.S_N (Kd.S_bound ho0)) (fun k_ hk_ => (Kd.fresh' (Kd.N_lt (by (with_reducible repeat (first | apply Kd.N_alloc | apply Kd.N_drewN | apply Kd.N_drew)); exact HO_4.out)) k_ hk_.2.1))) (below_size hB_)); replace HO_4 := Aside0.mk (Kd.N_elder' (by (with_reducible repeat (first | apply Kd.N_alloc | apply Kd.N_drewN | apply Kd.N_drew)); exact HO_4.out) (Kd.S_base ho0) hb); replace HB := b1_ hb; clear hb ho0; obtain ⟨Ao39, co39, eo39⟩ := Kd.N_slice HO471.out; subst eo39))
          go_loopg [5, 46] kj7 (fun kq v5 v46 w' => ∃ (x5_2 : Int) (x46_2 : Int), v5 = .int .i64 x5_2 ∧ v46 = .int .i64 x46_2 ∧ Aside0 (laws_FnListed.l0 kq l0 (rd y452 (ji4)) t457 x5_2 t469 (t469.length : Int) x46_2 = some r) ∧ Aside0 (kq ≤ kj7) ∧ Aside0 (Kd.N k33 33 w' w.heap.size (fun k_ => some k_ ≠ ((.slice Ao39 t469.length co39) : Value).ownBlock) v458 t457) ∧ Aside0 (Kd.N (Kd.slice 3 (Kd.int .i64)) 23 w' w.heap.size (fun k_ => some k_ ≠ (v458 : Value).ownBlock) (.slice Ao39 t469.length co39) t469) ∧ Aside0 (Below w.heap.size w w'))
          case atStart => exact ⟨(0), (0), qc_, qc_, H', ⟨Nat.le_refl _⟩, ⟨by (with_reducible repeat (first | apply Kd.N_alloc | apply Kd.N_drewN | apply Kd.N_drew)); exact Kd.N_mono HO_4.out (fun _ hk => hk.2)⟩, ⟨by (with_reducible repeat (first | apply Kd.N_alloc | apply Kd.N_drewN | apply Kd.N_drew)); exact HO471.out⟩, ⟨hB_⟩⟩
          case round =>
            clear H'
            obtain ⟨x5_2, x46_2, rfl, rfl, HA, HK2, HO_4, HO_44, HB⟩ := hrel
            cases gk with
            | zero => exact absurd HA.out (by simp [laws_FnListed.l0])
            | succ k2 =>
              have H := HA.out
              clear HA
              simp only [laws_FnListed.l0] at H
              by_cases c40 : x46_2 < (t469.length : Int)
              · rw [if_pos c40] at H
                have c40b0 := decide_eq_true c40
                clear c40
                have c41 := cp_ H
                replace H := ca_ H
                have c41b0 := decide_eq_true c41
                clear c41
                have c42 := cp_ H
                replace H := ca_ H
                have c42b0 := decide_eq_true c42
                clear c42
                obtain ⟨t473, A43, H⟩ := bi_ H
                have H' := Aside0.mk H
                clear H
                have p472 : 0 ≤ (x46_2 : Int) := of_decide_eq_true qe_
                have q472 : x46_2 < (t469.length : Int) := of_decide_eq_true qe_
                obtain ⟨ad472, A472_0, c472_0, e472, hx472_0, hl472_0, hi472_0⟩ := at_L5 (Kd.N_reads' HO_44.out).2.2 x46_2 p472 q472
                cases e472
                obtain ⟨ce472, hce472, hMe472, hcc472⟩ := Kd.N_get HO_44.out [] x46_2 p472 (by first | exact q472 | exact of_decide_eq_true qe_ | (have e_ := (Kd.N_reads' HO_44.out).1; omega))
                obtain ⟨ua472_0, uc472_0, rfl, ul472_0, ge472_0⟩ := Kd.FK_slice_open hMe472
                have hv472_0 := hcc472 0 _ rfl
                rw [Nat.add_zero, show ((Kd.slice 3 (Kd.int .i64))).sz = 1 from rfl, Nat.mul_one] at hv472_0
                replace hv472_0 := Option.some.inj (hv472_0.symm.trans hx472_0)
                injection hv472_0 with hva_ hvn_ hvc_
                rw [hva_] at ge472_0
                rw [hvc_] at ul472_0
                have HL472_0 := Aside0.mk (show Kd.V (Kd.int .i64) 3 _ w.heap.size _ _ (rd_L5 t469 x46_2) from Kd.V_mk ul472_0 ge472_0)
                clear hva_ hvn_ hvc_ ge472_0 ul472_0
                clear hcc472 hce472
                have HR472_0 := Aside0.mk hi472_0
                have HC472_0 := Aside0.mk hl472_0
                clear hi472_0 hl472_0
                replace p472 := eq_true p472
                replace q472 := eq_true q472
                go_wp2_with (first | ((with_reducible refine gate_callee (f := 15) rfl ?_); refine gL_ (some 53) Try.func15 #[.int .i64 (rd y452 (ji4)), .slice A472_0 (rd_L5 t469 x46_2).length c472_0] rfl (by (try simp only [List.map_toArray, List.map_cons, List.map_nil]); first | done | (simp only [hji4]; rfl) | rfl | (simp only [List.length_drop, List.length_take]; rfl)) ?_; (with_reducible refine (impl_SurfacesIn.calls k2 (rd y452 (ji4)) _ _ (rd_L5 t469 x46_2) t473 _ ?side1 ?side2 A43.out).mono ?_); (case side1 => repeat (first | exact (by repeat (first | (with_reducible exact HR472_0.out) | (with_reducible refine Kd.C_alloc ?_ _) | (with_reducible refine Kd.C_drewN ?_ _) | (with_reducible refine Kd.C_drew ?_) | exact HR472_0.out)) | (with_reducible refine Kd.C_alloc ?_ _) | (with_reducible refine Kd.C_drewN ?_ _) | (with_reducible refine Kd.C_drew ?_))); (case side2 => exact HC472_0.out); rintro e w44 ⟨v474, rfl, ho0, hb⟩; refine ⟨_, rfl, ?_⟩; replace HL472_0 := Aside0.mk (Kd.V_elder' (by (with_reducible repeat (first | apply Kd.V_alloc | apply Kd.V_drewN | apply Kd.V_drew)); exact HL472_0.out) (Kd.N_base ho0) hb); have HO475 := Aside0.mk (Kd.N_lower (Kd.N_mono (ok' := fun k_ => some k_ ≠ (v458 : Value).ownBlock ∧ some k_ ≠ (.slice (some ad472) t469.length co39 : Value).ownBlock) ho0 (fun k_ hk_ => ⟨(Kd.fresh' (Kd.N_lt (by (with_reducible repeat (first | apply Kd.N_alloc | apply Kd.N_drewN | apply Kd.N_drew)); exact HO_4.out)) k_ hk_), (Kd.fresh' (Kd.N_lt (by (with_reducible repeat (first | apply Kd.N_alloc | apply Kd.N_drewN | apply Kd.N_drew)); exact HO_44.out)) k_ hk_)⟩)) (below_size hB_)); replace HO_4 := Aside0.mk (Kd.N_elder' (by (with_reducible repeat (first | apply Kd.N_alloc | apply Kd.N_drewN | apply Kd.N_drew)); exact HO_4.out) (Kd.N_base ho0) hb); replace HO_44 := Aside0.mk (Kd.N_elder' (by (with_reducible repeat (first | apply Kd.N_alloc | apply Kd.N_drewN | apply Kd.N_drew)); exact HO_44.out) (Kd.N_base ho0) hb); replace HR472_0 := Aside0.mk (Kd.C_below (by repeat (first | (with_reducible exact HR472_0.out) | (with_reducible refine Kd.C_alloc ?_ _) | (with_reducible refine Kd.C_drewN ?_ _) | (with_reducible refine Kd.C_drew ?_) | exact HR472_0.out)) hb); replace HB := b1_ hb; clear hb ho0; obtain ⟨Ao45, co45, eo45⟩ := Kd.N_slice HO475.out; subst eo45))
                go_roundg k2
                case measure => have := HJ7.out; have := HK2.out; omega
                case rel => exact ⟨(wrap64 (x5_2 + (t473.length : Int))), (wrap64 (x46_2 + 1)), qc_, qc_, H', ⟨by have := HJ7.out; have := HK2.out; omega⟩, ⟨by (with_reducible repeat (first | apply Kd.N_alloc | apply Kd.N_drewN | apply Kd.N_drew)); exact Kd.N_mono HO_4.out (fun _ hk => hk.1)⟩, ⟨by (with_reducible repeat (first | apply Kd.N_alloc | apply Kd.N_drewN | apply Kd.N_drew)); exact Kd.N_mono HO_44.out (fun _ hk => hk.1)⟩, ⟨hB_⟩⟩
              · rw [if_neg c40] at H
                have c40b0 := decide_eq_false c40
                clear c40
                obtain ⟨t476, A46, H⟩ := bi_ H
                obtain ⟨t479, A47, H⟩ := bi_ H
                obtain ⟨⟨t483, t486, t489⟩, A48, H⟩ := bi_ H
                try dsimp only at H
                have H' := Aside0.mk H
                clear H
                go_wp2_with (first | ((with_reducible refine gate_callee (f := 16) rfl ?_); refine gL_ (some 59) Try.func16 #[.slice A0 l0.length c0, .int .i64 20, .int .i64 (rd y452 (ji4))] rfl (by (try simp only [List.map_toArray, List.map_cons, List.map_nil]); first | done | (simp only [hji4]; rfl) | rfl | (simp only [List.length_drop, List.length_take]; rfl)) ?_; (with_reducible refine (spec_MakePerm.calls k2 _ _ l0 20 (rd y452 (ji4)) t476 _ (cb_ HR0) HC0.out A46.out).mono ?_); rintro e w49 ⟨v477, rfl, ho0, hb⟩; refine ⟨_, rfl, ?_⟩; replace HO_4 := Aside0.mk (Kd.N_elder' (by (with_reducible repeat (first | apply Kd.N_alloc | apply Kd.N_drewN | apply Kd.N_drew)); exact HO_4.out) (Kd.R_base ho0) hb); replace HO_44 := Aside0.mk (Kd.N_elder' (by (with_reducible repeat (first | apply Kd.N_alloc | apply Kd.N_drewN | apply Kd.N_drew)); exact HO_44.out) (Kd.R_base ho0) hb); have HO478 := rl_ w ho0; replace HB := b1_ hb; clear hb ho0) | ((with_reducible refine gate_callee (f := 16) rfl ?_); refine gL_ (some 62) Try.func16 #[.slice A0 l0.length c0, .int .i64 40, .int .i64 (rd y452 (ji4))] rfl (by (try simp only [List.map_toArray, List.map_cons, List.map_nil]); first | done | (simp only [hji4]; rfl) | rfl | (simp only [List.length_drop, List.length_take]; rfl)) ?_; (with_reducible refine (spec_MakePerm.calls k2 _ _ l0 40 (rd y452 (ji4)) t479 _ (cb_ HR0) HC0.out A47.out).mono ?_); rintro e w50 ⟨v480, rfl, ho0, hb⟩; refine ⟨_, rfl, ?_⟩; replace HO_4 := Aside0.mk (Kd.N_elder' (by (with_reducible repeat (first | apply Kd.N_alloc | apply Kd.N_drewN | apply Kd.N_drew)); exact HO_4.out) (Kd.R_base ho0) hb); replace HO_44 := Aside0.mk (Kd.N_elder' (by (with_reducible repeat (first | apply Kd.N_alloc | apply Kd.N_drewN | apply Kd.N_drew)); exact HO_44.out) (Kd.R_base ho0) hb); have HO481 := Aside0.mk (Kd.R_lower (Kd.R_new' ho0 (Kd.R_lt (rr_ HO478))) (below_size hB_)); replace HO478 := Aside0.mk (Kd.R_elder' (rr_ HO478) (Kd.R_base ho0) hb); replace HB := b1_ hb; clear hb ho0; obtain ⟨Ao51, co51, eo51⟩ := Kd.R_slice HO481.out; subst eo51; obtain ⟨Ao52, co52, eo52⟩ := Kd.R_slice HO478.out; subst eo52) | ((with_reducible refine gate_dst (N := 8) rfl ?_); (try (refine gate_guard (by rfl) ?_; dsimp only)); refine bx_ 8 #[.slice none 0 0, .slice none 0 0] 33 ?_; intro gb482 hg w53 hbox hb; replace HO_4 := Aside0.mk (Kd.N_below (Kd.N_elderB (by (with_reducible repeat (first | apply Kd.N_alloc | apply Kd.N_drewN | apply Kd.N_drew)); exact HO_4.out) gb482 (Nat.le_of_eq hg.symm)) hb); replace HO_44 := Aside0.mk (Kd.N_below (Kd.N_elderB (by (with_reducible repeat (first | apply Kd.N_alloc | apply Kd.N_drewN | apply Kd.N_drew)); exact HO_44.out) gb482 (Nat.le_of_eq hg.symm)) hb); replace HO478 := rb_ HO478 hb; replace HO481 := rb_ HO481 hb; have BK482 := Aside0.mk hbox; have GW482 := gw_ w hg; have GE482 := GW482; replace HB := b1_ hb; clear hb hbox hg; obtain ⟨hcz54_0, hcz54_1, hfz54_0, hfz54_1⟩ := c2_ BK482) | ((with_reducible refine gate_callee (f := 17) rfl ?_); refine gL_ (some 66) Try.func17 #[.agg #[.slice Ao52 t476.length co52, .slice Ao51 t479.length co51]] rfl qa_ ?_; (with_reducible refine (impl_CanonOf.calls k2 _ _ t476 _ _ t479 t483 t486 t489 _ ?side1 ?side2 ?side3 ?side4 A48.out).mono ?_); (case side1 => refine (Kd.R_reads' (e := 3) (base := w.heap.size) (ok := fun k_ => (True ∧ some k_ ≠ (.slice Ao51 t479.length co51 : Value).ownBlock)) (n := t476.length) (c := co52) ?_).2.2; exact (rw_ (fa_ HO478 BK482))); (case side2 => exact (Kd.R_reads' HO478.out).2.1); (case side3 => refine (Kd.R_reads' (e := 3) (base := w.heap.size) (ok := fun k_ => (True ∧ some k_ ≠ (.slice Ao52 t476.length co52 : Value).ownBlock)) (n := t479.length) (c := co51) ?_).2.2; exact (rw_ (fa_ HO481 BK482))); (case side4 => exact (Kd.R_reads' HO481.out).2.1); rintro e w55 ⟨v484, v487, rfl, ho0, ho1, hb⟩; refine ⟨_, rfl, ?_⟩; replace HO_4 := Aside0.mk (Kd.N_mono (Kd.N_told (Kd.N_told (Kd.N_old (by (with_reducible repeat (first | apply Kd.N_alloc | apply Kd.N_drewN | apply Kd.N_drew)); exact (Kd.N_mono (Kd.N_far (p := ⟨gb482, 1, none⟩) (Kd.N_far (p := ⟨gb482, 0, none⟩) (Kd.N_mono HO_4.out (fun k_ hk => (⟨hk, hk.2⟩ : _ ∧ k_ ≠ gb482))) (fun _ hk => hk.2) (.slice Ao52 t476.length co52)) (fun _ hk => hk.2) (.slice Ao51 t479.length co51)) (fun _ h_ => h_.1))) hb) (Kd.R_base ho0)) (Kd.R_base ho1)) (fun _ h_ => h_.1)); replace HO_44 := Aside0.mk (Kd.N_mono (Kd.N_told (Kd.N_told (Kd.N_old (by (with_reducible repeat (first | apply Kd.N_alloc | apply Kd.N_drewN | apply Kd.N_drew)); exact (Kd.N_mono (Kd.N_far (p := ⟨gb482, 1, none⟩) (Kd.N_far (p := ⟨gb482, 0, none⟩) (Kd.N_mono HO_44.out (fun k_ hk => (⟨hk, hk.2⟩ : _ ∧ k_ ≠ gb482))) (fun _ hk => hk.2) (.slice Ao52 t476.length co52)) (fun _ hk => hk.2) (.slice Ao51 t479.length co51)) (fun _ h_ => h_.1))) hb) (Kd.R_base ho0)) (Kd.R_base ho1)) (fun _ h_ => h_.1)); have HO485 := Aside0.mk (Kd.R_lower (Kd.R_new' (Kd.R_new' ho0 (Kd.R_lt (rw_ (fa_ HO478 BK482)))) (Kd.R_lt (rw_ (fa_ HO481 BK482)))) (below_size hB_)); have HO488 := Aside0.mk (Kd.R_lower (Kd.R_new' (Kd.R_new' ho1 (Kd.R_lt (rw_ (fa_ HO478 BK482)))) (Kd.R_lt (rw_ (fa_ HO481 BK482)))) (below_size hB_)); replace HO478 := Aside0.mk (Kd.R_mono (Kd.R_told (Kd.R_told (Kd.R_old (rw_ (fa_ HO478 BK482)) hb) (Kd.R_base ho0)) (Kd.R_base ho1)) (fun _ h_ => h_.1)); replace HO481 := Aside0.mk (Kd.R_mono (Kd.R_told (Kd.R_told (Kd.R_old (rw_ (fa_ HO481 BK482)) hb) (Kd.R_base ho0)) (Kd.R_base ho1)) (fun _ h_ => h_.1)); replace BK482 := Aside0.mk (blk_below (g := gb482) (o := .cells #[.slice Ao52 t476.length co52, .slice Ao51 t479.length co51] 33 (0, 0)) qp_ hb); replace HB := b1_ hb; clear hb ho0 ho1) | ((with_reducible refine gate_dst (N := 9) rfl ?_); (try (refine gate_guard (by rfl) ?_; dsimp only)); refine bx_ 9 #[.slice none 0 0, .slice none 0 0] 33 ?_; intro gb490 hg w56 hbox hb; replace HO_4 := Aside0.mk (Kd.N_below (Kd.N_elderB (by (with_reducible repeat (first | apply Kd.N_alloc | apply Kd.N_drewN | apply Kd.N_drew)); exact HO_4.out) gb490 (Nat.le_of_eq hg.symm)) hb); replace HO_44 := Aside0.mk (Kd.N_below (Kd.N_elderB (by (with_reducible repeat (first | apply Kd.N_alloc | apply Kd.N_drewN | apply Kd.N_drew)); exact HO_44.out) gb490 (Nat.le_of_eq hg.symm)) hb); replace HO478 := rb_ HO478 hb; replace HO481 := rb_ HO481 hb; replace HO485 := rb_ HO485 hb; replace HO488 := rb_ HO488 hb; have BK490 := Aside0.mk hbox; have GW490 := gw_ w hg; have GE490 := GW490; replace HB := b1_ hb; have NB482_490 := gN_ BK482 hg; have NB490_482 := gP_ BK482 hg; replace BK482 := bb_ BK482 hb; clear hb hbox hg; obtain ⟨Ao57, co57, eo57⟩ := Kd.R_slice HO485.out; subst eo57; have hnb58 := NB490_482.out; have hnc58 := NB482_490.out; obtain ⟨hcz59_0, hcz59_1, hfz59_0, hfz59_1⟩ := c2_ BK490; obtain ⟨Ao60, co60, eo60⟩ := Kd.R_slice HO488.out; subst eo60; obtain ⟨Ao61, co61, eo61⟩ := Kd.N_slice HO_4.out; subst eo61))
                go_loopg [11, 71] k2 (fun kq v11 v71 w' => ∃ (x11_3 : Bool) (x71_3 : Int), v11 = .bool x11_3 ∧ v71 = .int .i64 x71_3 ∧ Aside0 (laws_FnListed.l1 kq t457 x5_2 t489 x11_3 t457 (t457.length : Int) x71_3 t476 t479 t483 t486 = some r) ∧ Aside0 (kq ≤ k2) ∧ Aside0 (Kd.N k33 33 w' w.heap.size (fun k_ => some k_ ≠ ((.slice Ao52 t476.length co52) : Value).ownBlock ∧ some k_ ≠ ((.slice Ao51 t479.length co51) : Value).ownBlock ∧ some k_ ≠ ((.slice Ao57 t483.length co57) : Value).ownBlock ∧ some k_ ≠ ((.slice Ao60 t486.length co60) : Value).ownBlock ∧ k_ ≠ gb482 ∧ k_ ≠ gb490) (.slice Ao61 t457.length co61) t457) ∧ Aside0 (Kd.N k33 33 w' w.heap.size (fun k_ => some k_ ≠ ((.slice Ao52 t476.length co52) : Value).ownBlock ∧ some k_ ≠ ((.slice Ao51 t479.length co51) : Value).ownBlock ∧ some k_ ≠ ((.slice Ao57 t483.length co57) : Value).ownBlock ∧ some k_ ≠ ((.slice Ao60 t486.length co60) : Value).ownBlock ∧ k_ ≠ gb482 ∧ k_ ≠ gb490) (.slice Ao61 t457.length co61) t457) ∧ Aside0 (Kd.R (Kd.int .i64) 3 w' w.heap.size (fun k_ => some k_ ≠ ((.slice Ao51 t479.length co51) : Value).ownBlock ∧ some k_ ≠ ((.slice Ao57 t483.length co57) : Value).ownBlock ∧ some k_ ≠ ((.slice Ao60 t486.length co60) : Value).ownBlock) (.slice Ao52 t476.length co52) t476) ∧ Aside0 (Kd.R (Kd.int .i64) 3 w' w.heap.size (fun k_ => some k_ ≠ ((.slice Ao52 t476.length co52) : Value).ownBlock ∧ some k_ ≠ ((.slice Ao57 t483.length co57) : Value).ownBlock ∧ some k_ ≠ ((.slice Ao60 t486.length co60) : Value).ownBlock) (.slice Ao51 t479.length co51) t479) ∧ Aside0 (Kd.R (Kd.int .i64) 3 w' w.heap.size (fun k_ => some k_ ≠ ((.slice Ao52 t476.length co52) : Value).ownBlock ∧ some k_ ≠ ((.slice Ao51 t479.length co51) : Value).ownBlock ∧ some k_ ≠ ((.slice Ao60 t486.length co60) : Value).ownBlock) (.slice Ao57 t483.length co57) t483) ∧ Aside0 (Kd.R (Kd.int .i64) 3 w' w.heap.size (fun k_ => some k_ ≠ ((.slice Ao52 t476.length co52) : Value).ownBlock ∧ some k_ ≠ ((.slice Ao51 t479.length co51) : Value).ownBlock ∧ some k_ ≠ ((.slice Ao57 t483.length co57) : Value).ownBlock) (.slice Ao60 t486.length co60) t486) ∧ Aside0 (w'.heap[gb482]? = some (.cells #[(.slice Ao52 t476.length co52), (.slice Ao51 t479.length co51)] 33 (0, 0))) ∧ Aside0 (w'.heap[gb490]? = some (.cells #[(.slice Ao57 t483.length co57), (.slice Ao60 t486.length co60)] 33 (0, 0))) ∧ Aside0 (Below w.heap.size w w'))
                case atStart => exact ⟨(false), (0), qc_, qc_, H', ⟨Nat.le_refl _⟩, ⟨by (with_reducible repeat (first | apply Kd.N_alloc | apply Kd.N_drewN | apply Kd.N_drew)); exact Kd.N_mono (Kd.N_far (p := ⟨gb490, 1, none⟩) (Kd.N_far (p := ⟨gb490, 0, none⟩) (Kd.N_mono HO_4.out (fun k_ hk => (⟨hk, hk.2⟩ : _ ∧ k_ ≠ gb490))) (fun _ hk => hk.2) (.slice Ao57 t483.length co57)) (fun _ hk => hk.2) (.slice Ao60 t486.length co60)) (fun _ hk => ⟨hk.1.1.1.1.1.1.2, ⟨hk.1.1.1.1.1.2, ⟨hk.1.1.1.2, ⟨hk.1.1.2, ⟨hk.1.1.1.1.2, hk.1.2⟩⟩⟩⟩⟩)⟩, ⟨by (with_reducible repeat (first | apply Kd.N_alloc | apply Kd.N_drewN | apply Kd.N_drew)); exact Kd.N_mono (Kd.N_far (p := ⟨gb490, 1, none⟩) (Kd.N_far (p := ⟨gb490, 0, none⟩) (Kd.N_mono HO_4.out (fun k_ hk => (⟨hk, hk.2⟩ : _ ∧ k_ ≠ gb490))) (fun _ hk => hk.2) (.slice Ao57 t483.length co57)) (fun _ hk => hk.2) (.slice Ao60 t486.length co60)) (fun _ hk => ⟨hk.1.1.1.1.1.1.2, ⟨hk.1.1.1.1.1.2, ⟨hk.1.1.1.2, ⟨hk.1.1.2, ⟨hk.1.1.1.1.2, hk.1.2⟩⟩⟩⟩⟩)⟩, ⟨(rw_ (Kd.R_mono (Kd.R_far (p := ⟨gb490, 1, none⟩) (Kd.R_far (p := ⟨gb490, 0, none⟩) (Kd.R_types HO478.out BK490.out (by decide)) (fun _ hk => hk.2) (.slice Ao57 t483.length co57)) (fun _ hk => hk.2) (.slice Ao60 t486.length co60)) (fun _ hk => ⟨hk.1.1.1.2, ⟨hk.1.1.2, hk.1.2⟩⟩)))⟩, ⟨(rw_ (Kd.R_mono (Kd.R_far (p := ⟨gb490, 1, none⟩) (Kd.R_far (p := ⟨gb490, 0, none⟩) (Kd.R_types HO481.out BK490.out (by decide)) (fun _ hk => hk.2) (.slice Ao57 t483.length co57)) (fun _ hk => hk.2) (.slice Ao60 t486.length co60)) (fun _ hk => ⟨hk.1.1.1.2, ⟨hk.1.1.2, hk.1.2⟩⟩)))⟩, ⟨(rw_ (Kd.R_mono (Kd.R_far (p := ⟨gb490, 1, none⟩) (Kd.R_far (p := ⟨gb490, 0, none⟩) (Kd.R_types HO485.out BK490.out (by decide)) (fun _ hk => hk.2) (.slice Ao57 t483.length co57)) (fun _ hk => hk.2) (.slice Ao60 t486.length co60)) (fun _ hk => ⟨hk.1.1.2, ⟨hk.1.2, hk.1.1.1⟩⟩)))⟩, ⟨(rw_ (Kd.R_mono (Kd.R_far (p := ⟨gb490, 1, none⟩) (Kd.R_far (p := ⟨gb490, 0, none⟩) (Kd.R_types HO488.out BK490.out (by decide)) (fun _ hk => hk.2) (.slice Ao57 t483.length co57)) (fun _ hk => hk.2) (.slice Ao60 t486.length co60)) (fun _ hk => ⟨hk.1.1.2, ⟨hk.1.2, hk.1.1.1⟩⟩)))⟩, ⟨by (with_reducible repeat (first | refine blk_drewN ?_ _ | refine blk_drew ?_ | refine blk_alloc ?_ _)); refine blk_far ?_ NB482_490.out _; (with_reducible repeat (first | refine blk_drewN ?_ _ | refine blk_drew ?_ | refine blk_alloc ?_ _)); refine blk_far ?_ NB482_490.out _; (with_reducible repeat (first | refine blk_drewN ?_ _ | refine blk_drew ?_ | refine blk_alloc ?_ _)); exact BK482.out⟩, ⟨qp_⟩, ⟨hB_⟩⟩
                case round =>
                  clear H'
                  obtain ⟨x11_3, x71_3, rfl, rfl, HA, HK3, HO_4, HO_69, HO_483000, HO_483001, HO_491000, HO_491001, BK482, BK490, HB⟩ := hrel
                  cases gk with
                  | zero => exact absurd HA.out (by simp [laws_FnListed.l1])
                  | succ k3 =>
                    have H := HA.out
                    clear HA
                    simp only [laws_FnListed.l1] at H
                    by_cases c62 : x71_3 < (t457.length : Int)
                    · rw [if_pos c62] at H
                      have c62b0 := decide_eq_true c62
                      clear c62
                      have c63 := cp_ H
                      replace H := ca_ H
                      have c63b0 := decide_eq_true c63
                      clear c63
                      have c64 := cp_ H
                      replace H := ca_ H
                      have c64b0 := decide_eq_true c64
                      clear c64
                      obtain ⟨⟨t494, t497, t500⟩, A65, H⟩ := bi_ H
                      try dsimp only at H
                      by_cases c66 : t500 = true
                      · subst c66
                        rw [if_pos rfl] at H
                        obtain ⟨t502, A67, H⟩ := bi_ H
                        by_cases c68 : t502 = true
                        · subst c68
                          rw [if_pos rfl] at H
                          by_cases c69 : x11_3 = true
                          · subst c69
                            rw [if_pos rfl] at H
                            have H' := Aside0.mk H
                            clear H
                            have p492 : 0 ≤ (x71_3 : Int) := of_decide_eq_true qe_
                            have q492 : x71_3 < (t457.length : Int) := of_decide_eq_true qe_
                            obtain ⟨ad492, A492_0, c492_0, A492_1, c492_1, e492, hx492_0, hx492_1, hl492_0, hi492_0, hl492_1, hi492_1⟩ := at_T33 (Kd.N_reads' HO_69.out).2.2 x71_3 p492 q492
                            cases e492
                            obtain ⟨ce492, hce492, hMe492, hcc492⟩ := Kd.N_get HO_69.out z33 x71_3 p492 (by first | exact q492 | exact of_decide_eq_true qe_ | (have e_ := (Kd.N_reads' HO_69.out).1; omega))
                            obtain ⟨ua492_0, uc492_0, ua492_1, uc492_1, rfl, ul492_0, ge492_0, ul492_1, ge492_1⟩ := k33_openF hMe492
                            have hv492_0 := hcc492 0 _ rfl
                            rw [Nat.add_zero] at hv492_0
                            replace hv492_0 := Option.some.inj (hv492_0.symm.trans hx492_0)
                            injection hv492_0 with hva_ hvn_ hvc_
                            rw [hva_] at ge492_0
                            rw [hvc_] at ul492_0
                            have HL492_0 := Aside0.mk (show Kd.V (Kd.int .i64) 3 _ w.heap.size _ _ ((rd_T33 t457 x71_3).f0) from Kd.V_mk ul492_0 ge492_0)
                            clear hva_ hvn_ hvc_ ge492_0 ul492_0
                            have hv492_1 := hcc492 1 _ rfl
                            rw [add_field _ _ 1 (by omega)] at hv492_1
                            replace hv492_1 := Option.some.inj (hv492_1.symm.trans hx492_1)
                            injection hv492_1 with hva_ hvn_ hvc_
                            rw [hva_] at ge492_1
                            rw [hvc_] at ul492_1
                            have HL492_1 := Aside0.mk (show Kd.V (Kd.int .i64) 3 _ w.heap.size _ _ ((rd_T33 t457 x71_3).f1) from Kd.V_mk ul492_1 ge492_1)
                            clear hva_ hvn_ hvc_ ge492_1 ul492_1
                            clear hcc492 hce492
                            have HR492_0 := Aside0.mk hi492_0
                            have HC492_0 := Aside0.mk hl492_0
                            clear hi492_0 hl492_0
                            have HR492_1 := Aside0.mk hi492_1
                            have HC492_1 := Aside0.mk hl492_1
                            clear hi492_1 hl492_1
                            replace p492 := eq_true p492
                            replace q492 := eq_true q492
                            go_wp2_with (first | ((with_reducible refine gate_dst (N := 13) rfl ?_); (try (refine gate_guard (by rfl) ?_; dsimp only)); refine bx_ 13 #[.slice none 0 0, .slice none 0 0] 33 ?_; intro gb493 hg w70 hbox hb; replace HO_4 := Aside0.mk (Kd.N_below (Kd.N_elderB (by (with_reducible repeat (first | apply Kd.N_alloc | apply Kd.N_drewN | apply Kd.N_drew)); exact HO_4.out) gb493 (Nat.le_of_eq hg.symm)) hb); replace HO_69 := Aside0.mk (Kd.N_below (Kd.N_elderB (by (with_reducible repeat (first | apply Kd.N_alloc | apply Kd.N_drewN | apply Kd.N_drew)); exact HO_69.out) gb493 (Nat.le_of_eq hg.symm)) hb); replace HO_483000 := rb_ HO_483000 hb; replace HO_483001 := rb_ HO_483001 hb; replace HO_491000 := rb_ HO_491000 hb; replace HO_491001 := rb_ HO_491001 hb; replace HL492_0 := Aside0.mk (Kd.V_below (Kd.V_elderB (by (with_reducible repeat (first | apply Kd.V_alloc | apply Kd.V_drewN | apply Kd.V_drew)); exact HL492_0.out) gb493 (Nat.le_of_eq hg.symm)) hb); replace HL492_1 := Aside0.mk (Kd.V_below (Kd.V_elderB (by (with_reducible repeat (first | apply Kd.V_alloc | apply Kd.V_drewN | apply Kd.V_drew)); exact HL492_1.out) gb493 (Nat.le_of_eq hg.symm)) hb); replace HR492_0 := Aside0.mk (Kd.C_below (by repeat (first | (with_reducible exact HR492_0.out) | (with_reducible refine Kd.C_alloc ?_ _) | (with_reducible refine Kd.C_drewN ?_ _) | (with_reducible refine Kd.C_drew ?_) | exact HR492_0.out)) hb); replace HR492_1 := Aside0.mk (Kd.C_below (by repeat (first | (with_reducible exact HR492_1.out) | (with_reducible refine Kd.C_alloc ?_ _) | (with_reducible refine Kd.C_drewN ?_ _) | (with_reducible refine Kd.C_drew ?_) | exact HR492_1.out)) hb); have BK493 := Aside0.mk hbox; have GW493 := gw_ w hg; have GE493 := GW493; replace HB := b1_ hb; have NB482_493 := gN_ BK482 hg; have NB493_482 := gP_ BK482 hg; replace BK482 := bb_ BK482 hb; have NB490_493 := gN_ BK490 hg; have NB493_490 := gP_ BK490 hg; replace BK490 := bb_ BK490 hb; clear hb hbox hg; have hnb71 := NB493_482.out; have hnc71 := NB482_493.out; have hnb72 := NB493_490.out; have hnc72 := NB490_493.out; obtain ⟨hcz73_0, hcz73_1, hfz73_0, hfz73_1⟩ := c2_ BK493) | ((with_reducible refine gate_callee (f := 17) rfl ?_); refine gL_ (some 77) Try.func17 #[.agg #[.slice A492_0 ((rd_T33 t457 x71_3).f0).length c492_0, .slice A492_1 ((rd_T33 t457 x71_3).f1).length c492_1]] rfl qa_ ?_; (with_reducible refine (impl_CanonOf.calls k3 _ _ ((rd_T33 t457 x71_3).f0) _ _ ((rd_T33 t457 x71_3).f1) t494 t497 true _ ?side1 ?side2 ?side3 ?side4 A65.out).mono ?_); (case side1 => repeat (first | exact ((Kd.V_reads' (by (with_reducible repeat (first | apply Kd.V_alloc | apply Kd.V_drewN | apply Kd.V_drew)); exact (Kd.V_mono (Kd.V_far (p := ⟨gb493, 1, none⟩) (Kd.V_far (p := ⟨gb493, 0, none⟩) (Kd.V_mono HL492_0.out (fun k_ hk => (⟨hk, hk.2⟩ : _ ∧ k_ ≠ gb493))) (fun _ hk => hk.2) (.slice A492_0 ((rd_T33 t457 x71_3).f0).length c492_0)) (fun _ hk => hk.2) (.slice A492_1 ((rd_T33 t457 x71_3).f1).length c492_1)) (fun _ h_ => h_.1)))).2.2) | (with_reducible refine Kd.C_alloc ?_ _) | (with_reducible refine Kd.C_drewN ?_ _) | (with_reducible refine Kd.C_drew ?_))); (case side2 => exact HC492_0.out); (case side3 => repeat (first | exact ((Kd.V_reads' (by (with_reducible repeat (first | apply Kd.V_alloc | apply Kd.V_drewN | apply Kd.V_drew)); exact (Kd.V_mono (Kd.V_far (p := ⟨gb493, 1, none⟩) (Kd.V_far (p := ⟨gb493, 0, none⟩) (Kd.V_mono HL492_1.out (fun k_ hk => (⟨hk, hk.2⟩ : _ ∧ k_ ≠ gb493))) (fun _ hk => hk.2) (.slice A492_0 ((rd_T33 t457 x71_3).f0).length c492_0)) (fun _ hk => hk.2) (.slice A492_1 ((rd_T33 t457 x71_3).f1).length c492_1)) (fun _ h_ => h_.1)))).2.2) | (with_reducible refine Kd.C_alloc ?_ _) | (with_reducible refine Kd.C_drewN ?_ _) | (with_reducible refine Kd.C_drew ?_))); (case side4 => exact HC492_1.out); rintro e w74 ⟨v495, v498, rfl, ho0, ho1, hb⟩; refine ⟨_, rfl, ?_⟩; replace HO_4 := Aside0.mk (Kd.N_mono (Kd.N_told (Kd.N_told (Kd.N_old (by (with_reducible repeat (first | apply Kd.N_alloc | apply Kd.N_drewN | apply Kd.N_drew)); exact (Kd.N_mono (Kd.N_far (p := ⟨gb493, 1, none⟩) (Kd.N_far (p := ⟨gb493, 0, none⟩) (Kd.N_mono HO_4.out (fun k_ hk => (⟨hk, hk.2⟩ : _ ∧ k_ ≠ gb493))) (fun _ hk => hk.2) (.slice A492_0 ((rd_T33 t457 x71_3).f0).length c492_0)) (fun _ hk => hk.2) (.slice A492_1 ((rd_T33 t457 x71_3).f1).length c492_1)) (fun _ h_ => h_.1))) hb) (Kd.R_base ho0)) (Kd.R_base ho1)) (fun _ h_ => h_.1)); replace HO_69 := Aside0.mk (Kd.N_mono (Kd.N_told (Kd.N_told (Kd.N_old (by (with_reducible repeat (first | apply Kd.N_alloc | apply Kd.N_drewN | apply Kd.N_drew)); exact (Kd.N_mono (Kd.N_far (p := ⟨gb493, 1, none⟩) (Kd.N_far (p := ⟨gb493, 0, none⟩) (Kd.N_mono HO_69.out (fun k_ hk => (⟨hk, hk.2⟩ : _ ∧ k_ ≠ gb493))) (fun _ hk => hk.2) (.slice A492_0 ((rd_T33 t457 x71_3).f0).length c492_0)) (fun _ hk => hk.2) (.slice A492_1 ((rd_T33 t457 x71_3).f1).length c492_1)) (fun _ h_ => h_.1))) hb) (Kd.R_base ho0)) (Kd.R_base ho1)) (fun _ h_ => h_.1)); have HO496 := Aside0.mk (Kd.R_lower (Kd.R_new' (Kd.R_new' (Kd.R_new' (Kd.R_new' ho0 (Kd.R_lt (rw_ (Kd.R_mono (Kd.R_far (p := ⟨gb493, 1, none⟩) (Kd.R_far (p := ⟨gb493, 0, none⟩) (Kd.R_types HO_483000.out BK493.out (by decide)) (fun _ hk => hk.2) (.slice A492_0 ((rd_T33 t457 x71_3).f0).length c492_0)) (fun _ hk => hk.2) (.slice A492_1 ((rd_T33 t457 x71_3).f1).length c492_1)) (fun _ h_ => h_.1))))) (Kd.R_lt (rw_ (Kd.R_mono (Kd.R_far (p := ⟨gb493, 1, none⟩) (Kd.R_far (p := ⟨gb493, 0, none⟩) (Kd.R_types HO_483001.out BK493.out (by decide)) (fun _ hk => hk.2) (.slice A492_0 ((rd_T33 t457 x71_3).f0).length c492_0)) (fun _ hk => hk.2) (.slice A492_1 ((rd_T33 t457 x71_3).f1).length c492_1)) (fun _ h_ => h_.1))))) (Kd.R_lt (rw_ (Kd.R_mono (Kd.R_far (p := ⟨gb493, 1, none⟩) (Kd.R_far (p := ⟨gb493, 0, none⟩) (Kd.R_types HO_491000.out BK493.out (by decide)) (fun _ hk => hk.2) (.slice A492_0 ((rd_T33 t457 x71_3).f0).length c492_0)) (fun _ hk => hk.2) (.slice A492_1 ((rd_T33 t457 x71_3).f1).length c492_1)) (fun _ h_ => h_.1))))) (Kd.R_lt (rw_ (Kd.R_mono (Kd.R_far (p := ⟨gb493, 1, none⟩) (Kd.R_far (p := ⟨gb493, 0, none⟩) (Kd.R_types HO_491001.out BK493.out (by decide)) (fun _ hk => hk.2) (.slice A492_0 ((rd_T33 t457 x71_3).f0).length c492_0)) (fun _ hk => hk.2) (.slice A492_1 ((rd_T33 t457 x71_3).f1).length c492_1)) (fun _ h_ => h_.1))))) (below_size hB_)); have HO499 := Aside0.mk (Kd.R_lower (Kd.R_new' (Kd.R_new' (Kd.R_new' (Kd.R_new' ho1 (Kd.R_lt (rw_ (Kd.R_mono (Kd.R_far (p := ⟨gb493, 1, none⟩) (Kd.R_far (p := ⟨gb493, 0, none⟩) (Kd.R_types HO_483000.out BK493.out (by decide)) (fun _ hk => hk.2) (.slice A492_0 ((rd_T33 t457 x71_3).f0).length c492_0)) (fun _ hk => hk.2) (.slice A492_1 ((rd_T33 t457 x71_3).f1).length c492_1)) (fun _ h_ => h_.1))))) (Kd.R_lt (rw_ (Kd.R_mono (Kd.R_far (p := ⟨gb493, 1, none⟩) (Kd.R_far (p := ⟨gb493, 0, none⟩) (Kd.R_types HO_483001.out BK493.out (by decide)) (fun _ hk => hk.2) (.slice A492_0 ((rd_T33 t457 x71_3).f0).length c492_0)) (fun _ hk => hk.2) (.slice A492_1 ((rd_T33 t457 x71_3).f1).length c492_1)) (fun _ h_ => h_.1))))) (Kd.R_lt (rw_ (Kd.R_mono (Kd.R_far (p := ⟨gb493, 1, none⟩) (Kd.R_far (p := ⟨gb493, 0, none⟩) (Kd.R_types HO_491000.out BK493.out (by decide)) (fun _ hk => hk.2) (.slice A492_0 ((rd_T33 t457 x71_3).f0).length c492_0)) (fun _ hk => hk.2) (.slice A492_1 ((rd_T33 t457 x71_3).f1).length c492_1)) (fun _ h_ => h_.1))))) (Kd.R_lt (rw_ (Kd.R_mono (Kd.R_far (p := ⟨gb493, 1, none⟩) (Kd.R_far (p := ⟨gb493, 0, none⟩) (Kd.R_types HO_491001.out BK493.out (by decide)) (fun _ hk => hk.2) (.slice A492_0 ((rd_T33 t457 x71_3).f0).length c492_0)) (fun _ hk => hk.2) (.slice A492_1 ((rd_T33 t457 x71_3).f1).length c492_1)) (fun _ h_ => h_.1))))) (below_size hB_)); replace HO_483000 := Aside0.mk (Kd.R_mono (Kd.R_told (Kd.R_told (Kd.R_old (rw_ (Kd.R_mono (Kd.R_far (p := ⟨gb493, 1, none⟩) (Kd.R_far (p := ⟨gb493, 0, none⟩) (Kd.R_types HO_483000.out BK493.out (by decide)) (fun _ hk => hk.2) (.slice A492_0 ((rd_T33 t457 x71_3).f0).length c492_0)) (fun _ hk => hk.2) (.slice A492_1 ((rd_T33 t457 x71_3).f1).length c492_1)) (fun _ h_ => h_.1))) hb) (Kd.R_base ho0)) (Kd.R_base ho1)) (fun _ h_ => h_.1)); replace HO_483001 := Aside0.mk (Kd.R_mono (Kd.R_told (Kd.R_told (Kd.R_old (rw_ (Kd.R_mono (Kd.R_far (p := ⟨gb493, 1, none⟩) (Kd.R_far (p := ⟨gb493, 0, none⟩) (Kd.R_types HO_483001.out BK493.out (by decide)) (fun _ hk => hk.2) (.slice A492_0 ((rd_T33 t457 x71_3).f0).length c492_0)) (fun _ hk => hk.2) (.slice A492_1 ((rd_T33 t457 x71_3).f1).length c492_1)) (fun _ h_ => h_.1))) hb) (Kd.R_base ho0)) (Kd.R_base ho1)) (fun _ h_ => h_.1)); replace HO_491000 := Aside0.mk (Kd.R_mono (Kd.R_told (Kd.R_told (Kd.R_old (rw_ (Kd.R_mono (Kd.R_far (p := ⟨gb493, 1, none⟩) (Kd.R_far (p := ⟨gb493, 0, none⟩) (Kd.R_types HO_491000.out BK493.out (by decide)) (fun _ hk => hk.2) (.slice A492_0 ((rd_T33 t457 x71_3).f0).length c492_0)) (fun _ hk => hk.2) (.slice A492_1 ((rd_T33 t457 x71_3).f1).length c492_1)) (fun _ h_ => h_.1))) hb) (Kd.R_base ho0)) (Kd.R_base ho1)) (fun _ h_ => h_.1)); replace HO_491001 := Aside0.mk (Kd.R_mono (Kd.R_told (Kd.R_told (Kd.R_old (rw_ (Kd.R_mono (Kd.R_far (p := ⟨gb493, 1, none⟩) (Kd.R_far (p := ⟨gb493, 0, none⟩) (Kd.R_types HO_491001.out BK493.out (by decide)) (fun _ hk => hk.2) (.slice A492_0 ((rd_T33 t457 x71_3).f0).length c492_0)) (fun _ hk => hk.2) (.slice A492_1 ((rd_T33 t457 x71_3).f1).length c492_1)) (fun _ h_ => h_.1))) hb) (Kd.R_base ho0)) (Kd.R_base ho1)) (fun _ h_ => h_.1)); replace BK482 := Aside0.mk (blk_below (g := gb482) (o := .cells #[.slice Ao52 t476.length co52, .slice Ao51 t479.length co51] 33 (0, 0)) (by (with_reducible repeat (first | refine blk_drewN ?_ _ | refine blk_drew ?_ | refine blk_alloc ?_ _)); refine blk_far ?_ NB482_493.out _; (with_reducible repeat (first | refine blk_drewN ?_ _ | refine blk_drew ?_ | refine blk_alloc ?_ _)); refine blk_far ?_ NB482_493.out _; (with_reducible repeat (first | refine blk_drewN ?_ _ | refine blk_drew ?_ | refine blk_alloc ?_ _)); exact BK482.out) hb); replace BK490 := Aside0.mk (blk_below (g := gb490) (o := .cells #[.slice Ao57 t483.length co57, .slice Ao60 t486.length co60] 33 (0, 0)) (by (with_reducible repeat (first | refine blk_drewN ?_ _ | refine blk_drew ?_ | refine blk_alloc ?_ _)); refine blk_far ?_ NB490_493.out _; (with_reducible repeat (first | refine blk_drewN ?_ _ | refine blk_drew ?_ | refine blk_alloc ?_ _)); refine blk_far ?_ NB490_493.out _; (with_reducible repeat (first | refine blk_drewN ?_ _ | refine blk_drew ?_ | refine blk_alloc ?_ _)); exact BK490.out) hb); replace HR492_0 := Aside0.mk (Kd.C_below ((Kd.V_reads' (by (with_reducible repeat (first | apply Kd.V_alloc | apply Kd.V_drewN | apply Kd.V_drew)); exact (Kd.V_mono (Kd.V_far (p := ⟨gb493, 1, none⟩) (Kd.V_far (p := ⟨gb493, 0, none⟩) (Kd.V_mono HL492_0.out (fun k_ hk => (⟨hk, hk.2⟩ : _ ∧ k_ ≠ gb493))) (fun _ hk => hk.2) (.slice A492_0 ((rd_T33 t457 x71_3).f0).length c492_0)) (fun _ hk => hk.2) (.slice A492_1 ((rd_T33 t457 x71_3).f1).length c492_1)) (fun _ h_ => h_.1)))).2.2) hb); replace HL492_0 := Aside0.mk (Kd.V_mono (Kd.V_told (Kd.V_told (Kd.V_old (by (with_reducible repeat (first | apply Kd.V_alloc | apply Kd.V_drewN | apply Kd.V_drew)); exact (Kd.V_mono (Kd.V_far (p := ⟨gb493, 1, none⟩) (Kd.V_far (p := ⟨gb493, 0, none⟩) (Kd.V_mono HL492_0.out (fun k_ hk => (⟨hk, hk.2⟩ : _ ∧ k_ ≠ gb493))) (fun _ hk => hk.2) (.slice A492_0 ((rd_T33 t457 x71_3).f0).length c492_0)) (fun _ hk => hk.2) (.slice A492_1 ((rd_T33 t457 x71_3).f1).length c492_1)) (fun _ h_ => h_.1))) hb) (Kd.R_base ho0)) (Kd.R_base ho1)) (fun _ h_ => h_.1)); replace HR492_1 := Aside0.mk (Kd.C_below ((Kd.V_reads' (by (with_reducible repeat (first | apply Kd.V_alloc | apply Kd.V_drewN | apply Kd.V_drew)); exact (Kd.V_mono (Kd.V_far (p := ⟨gb493, 1, none⟩) (Kd.V_far (p := ⟨gb493, 0, none⟩) (Kd.V_mono HL492_1.out (fun k_ hk => (⟨hk, hk.2⟩ : _ ∧ k_ ≠ gb493))) (fun _ hk => hk.2) (.slice A492_0 ((rd_T33 t457 x71_3).f0).length c492_0)) (fun _ hk => hk.2) (.slice A492_1 ((rd_T33 t457 x71_3).f1).length c492_1)) (fun _ h_ => h_.1)))).2.2) hb); replace HL492_1 := Aside0.mk (Kd.V_mono (Kd.V_told (Kd.V_told (Kd.V_old (by (with_reducible repeat (first | apply Kd.V_alloc | apply Kd.V_drewN | apply Kd.V_drew)); exact (Kd.V_mono (Kd.V_far (p := ⟨gb493, 1, none⟩) (Kd.V_far (p := ⟨gb493, 0, none⟩) (Kd.V_mono HL492_1.out (fun k_ hk => (⟨hk, hk.2⟩ : _ ∧ k_ ≠ gb493))) (fun _ hk => hk.2) (.slice A492_0 ((rd_T33 t457 x71_3).f0).length c492_0)) (fun _ hk => hk.2) (.slice A492_1 ((rd_T33 t457 x71_3).f1).length c492_1)) (fun _ h_ => h_.1))) hb) (Kd.R_base ho0)) (Kd.R_base ho1)) (fun _ h_ => h_.1)); replace BK493 := Aside0.mk (blk_below (g := gb493) (o := .cells #[.slice A492_0 ((rd_T33 t457 x71_3).f0).length c492_0, .slice A492_1 ((rd_T33 t457 x71_3).f1).length c492_1] 33 (0, 0)) qp_ hb); replace HB := b1_ hb; clear hb ho0 ho1) | ((with_reducible refine gate_dst (N := 14) rfl ?_); (try (refine gate_guard (by rfl) ?_; dsimp only)); refine bx_ 14 #[.slice none 0 0, .slice none 0 0] 33 ?_; intro gb501 hg w75 hbox hb; replace HO_4 := Aside0.mk (Kd.N_below (Kd.N_elderB (by (with_reducible repeat (first | apply Kd.N_alloc | apply Kd.N_drewN | apply Kd.N_drew)); exact HO_4.out) gb501 (Nat.le_of_eq hg.symm)) hb); replace HO_69 := Aside0.mk (Kd.N_below (Kd.N_elderB (by (with_reducible repeat (first | apply Kd.N_alloc | apply Kd.N_drewN | apply Kd.N_drew)); exact HO_69.out) gb501 (Nat.le_of_eq hg.symm)) hb); replace HO_483000 := rb_ HO_483000 hb; replace HO_483001 := rb_ HO_483001 hb; replace HO_491000 := rb_ HO_491000 hb; replace HO_491001 := rb_ HO_491001 hb; replace HL492_0 := Aside0.mk (Kd.V_below (Kd.V_elderB (by (with_reducible repeat (first | apply Kd.V_alloc | apply Kd.V_drewN | apply Kd.V_drew)); exact HL492_0.out) gb501 (Nat.le_of_eq hg.symm)) hb); replace HL492_1 := Aside0.mk (Kd.V_below (Kd.V_elderB (by (with_reducible repeat (first | apply Kd.V_alloc | apply Kd.V_drewN | apply Kd.V_drew)); exact HL492_1.out) gb501 (Nat.le_of_eq hg.symm)) hb); replace HO496 := rb_ HO496 hb; replace HO499 := rb_ HO499 hb; replace HR492_0 := Aside0.mk (Kd.C_below (by repeat (first | (with_reducible exact HR492_0.out) | (with_reducible refine Kd.C_alloc ?_ _) | (with_reducible refine Kd.C_drewN ?_ _) | (with_reducible refine Kd.C_drew ?_) | exact HR492_0.out)) hb); replace HR492_1 := Aside0.mk (Kd.C_below (by repeat (first | (with_reducible exact HR492_1.out) | (with_reducible refine Kd.C_alloc ?_ _) | (with_reducible refine Kd.C_drewN ?_ _) | (with_reducible refine Kd.C_drew ?_) | exact HR492_1.out)) hb); have BK501 := Aside0.mk hbox; have GW501 := gw_ w hg; have GE501 := GW501; replace HB := b1_ hb; have NB482_501 := gN_ BK482 hg; have NB501_482 := gP_ BK482 hg; replace BK482 := bb_ BK482 hb; have NB490_501 := gN_ BK490 hg; have NB501_490 := gP_ BK490 hg; replace BK490 := bb_ BK490 hb; have NB493_501 := gN_ BK493 hg; have NB501_493 := gP_ BK493 hg; replace BK493 := bb_ BK493 hb; clear hb hbox hg; obtain ⟨Ao76, co76, eo76⟩ := Kd.R_slice HO496.out; subst eo76; have hnb77 := NB501_482.out; have hnc77 := NB482_501.out; have hnb78 := NB501_490.out; have hnc78 := NB490_501.out; have hnb79 := NB501_493.out; have hnc79 := NB493_501.out; obtain ⟨hcz80_0, hcz80_1, hfz80_0, hfz80_1⟩ := c2_ BK501; obtain ⟨Ao81, co81, eo81⟩ := Kd.R_slice HO499.out; subst eo81; have hcz82_0 : w75.cell? ⟨gb493, 0, none⟩ = some (.slice A492_0 ((rd_T33 t457 x71_3).f0).length c492_0) := cz0_ BK493; have hcz82_1 : w75.cell? ⟨gb493, 1, none⟩ = some (.slice A492_1 ((rd_T33 t457 x71_3).f1).length c492_1) := cz1_ BK493; have hfz82_0 := blk_frozen BK493.out 0; have hfz82_1 := blk_frozen BK493.out 1) | (go_at_call 18; (with_reducible refine (impl_SameSurface.calls k3 _ _ ((rd_T33 t457 x71_3).f0) _ _ ((rd_T33 t457 x71_3).f1) _ _ t494 _ _ t497 true _ ?side1 ?side2 ?side3 ?side4 ?side5 ?side6 ?side7 ?side8 A67.out).mono ?_); (case side1 => repeat (first | exact ((Kd.V_reads' (by (with_reducible repeat (first | apply Kd.V_alloc | apply Kd.V_drewN | apply Kd.V_drew)); exact (Kd.V_mono (Kd.V_far (p := ⟨gb501, 1, none⟩) (Kd.V_far (p := ⟨gb501, 0, none⟩) (Kd.V_mono HL492_0.out (fun k_ hk => (⟨hk, hk.2⟩ : _ ∧ k_ ≠ gb501))) (fun _ hk => hk.2) (.slice Ao76 t494.length co76)) (fun _ hk => hk.2) (.slice Ao81 t497.length co81)) (fun _ h_ => h_.1)))).2.2) | (with_reducible refine Kd.C_alloc ?_ _) | (with_reducible refine Kd.C_drewN ?_ _) | (with_reducible refine Kd.C_drew ?_))); (case side2 => exact HC492_0.out); (case side3 => repeat (first | exact ((Kd.V_reads' (by (with_reducible repeat (first | apply Kd.V_alloc | apply Kd.V_drewN | apply Kd.V_drew)); exact (Kd.V_mono (Kd.V_far (p := ⟨gb501, 1, none⟩) (Kd.V_far (p := ⟨gb501, 0, none⟩) (Kd.V_mono HL492_1.out (fun k_ hk => (⟨hk, hk.2⟩ : _ ∧ k_ ≠ gb501))) (fun _ hk => hk.2) (.slice Ao76 t494.length co76)) (fun _ hk => hk.2) (.slice Ao81 t497.length co81)) (fun _ h_ => h_.1)))).2.2) | (with_reducible refine Kd.C_alloc ?_ _) | (with_reducible refine Kd.C_drewN ?_ _) | (with_reducible refine Kd.C_drew ?_))); (case side4 => exact HC492_1.out); (case side5 => refine (Kd.R_reads' (e := 3) (base := w.heap.size) (ok := fun k_ => ((((some k_ ≠ (.slice Ao81 t497.length co81 : Value).ownBlock ∧ some k_ ≠ (.slice Ao52 t476.length co52 : Value).ownBlock) ∧ some k_ ≠ (.slice Ao51 t479.length co51 : Value).ownBlock) ∧ some k_ ≠ (.slice Ao57 t483.length co57 : Value).ownBlock) ∧ some k_ ≠ (.slice Ao60 t486.length co60 : Value).ownBlock)) (n := t494.length) (c := co76) ?_).2.2; exact (rw_ (fa_ HO496 BK501))); (case side6 => exact (Kd.R_reads' HO496.out).2.1); (case side7 => refine (Kd.R_reads' (e := 3) (base := w.heap.size) (ok := fun k_ => ((((some k_ ≠ (.slice Ao76 t494.length co76 : Value).ownBlock ∧ some k_ ≠ (.slice Ao52 t476.length co52 : Value).ownBlock) ∧ some k_ ≠ (.slice Ao51 t479.length co51 : Value).ownBlock) ∧ some k_ ≠ (.slice Ao57 t483.length co57 : Value).ownBlock) ∧ some k_ ≠ (.slice Ao60 t486.length co60 : Value).ownBlock)) (n := t497.length) (c := co81) ?_).2.2; exact (rw_ (fa_ HO499 BK501))); (case side8 => exact (Kd.R_reads' HO499.out).2.1); rintro e w83 ⟨rfl, hb⟩; replace HO_4 := Aside0.mk (Kd.N_below (by (with_reducible repeat (first | apply Kd.N_alloc | apply Kd.N_drewN | apply Kd.N_drew)); exact (Kd.N_mono (Kd.N_far (p := ⟨gb501, 1, none⟩) (Kd.N_far (p := ⟨gb501, 0, none⟩) (Kd.N_mono HO_4.out (fun k_ hk => (⟨hk, hk.2⟩ : _ ∧ k_ ≠ gb501))) (fun _ hk => hk.2) (.slice Ao76 t494.length co76)) (fun _ hk => hk.2) (.slice Ao81 t497.length co81)) (fun _ h_ => h_.1))) hb); replace HO_69 := Aside0.mk (Kd.N_below (by (with_reducible repeat (first | apply Kd.N_alloc | apply Kd.N_drewN | apply Kd.N_drew)); exact (Kd.N_mono (Kd.N_far (p := ⟨gb501, 1, none⟩) (Kd.N_far (p := ⟨gb501, 0, none⟩) (Kd.N_mono HO_69.out (fun k_ hk => (⟨hk, hk.2⟩ : _ ∧ k_ ≠ gb501))) (fun _ hk => hk.2) (.slice Ao76 t494.length co76)) (fun _ hk => hk.2) (.slice Ao81 t497.length co81)) (fun _ h_ => h_.1))) hb); replace HO_483000 := Aside0.mk (Kd.R_below (rw_ (fa_ HO_483000 BK501)) hb); replace HO_483001 := Aside0.mk (Kd.R_below (rw_ (fa_ HO_483001 BK501)) hb); replace HO_491000 := Aside0.mk (Kd.R_below (rw_ (fa_ HO_491000 BK501)) hb); replace HO_491001 := Aside0.mk (Kd.R_below (rw_ (fa_ HO_491001 BK501)) hb); replace HO496 := Aside0.mk (Kd.R_below (rw_ (fa_ HO496 BK501)) hb); replace HO499 := Aside0.mk (Kd.R_below (rw_ (fa_ HO499 BK501)) hb); replace BK482 := Aside0.mk (blk_below (g := gb482) (o := .cells #[.slice Ao52 t476.length co52, .slice Ao51 t479.length co51] 33 (0, 0)) (by (with_reducible repeat (first | refine blk_drewN ?_ _ | refine blk_drew ?_ | refine blk_alloc ?_ _)); refine blk_far ?_ NB482_501.out _; (with_reducible repeat (first | refine blk_drewN ?_ _ | refine blk_drew ?_ | refine blk_alloc ?_ _)); refine blk_far ?_ NB482_501.out _; (with_reducible repeat (first | refine blk_drewN ?_ _ | refine blk_drew ?_ | refine blk_alloc ?_ _)); exact BK482.out) hb); replace BK490 := Aside0.mk (blk_below (g := gb490) (o := .cells #[.slice Ao57 t483.length co57, .slice Ao60 t486.length co60] 33 (0, 0)) (by (with_reducible repeat (first | refine blk_drewN ?_ _ | refine blk_drew ?_ | refine blk_alloc ?_ _)); refine blk_far ?_ NB490_501.out _; (with_reducible repeat (first | refine blk_drewN ?_ _ | refine blk_drew ?_ | refine blk_alloc ?_ _)); refine blk_far ?_ NB490_501.out _; (with_reducible repeat (first | refine blk_drewN ?_ _ | refine blk_drew ?_ | refine blk_alloc ?_ _)); exact BK490.out) hb); replace HR492_0 := Aside0.mk (Kd.C_below ((Kd.V_reads' (by (with_reducible repeat (first | apply Kd.V_alloc | apply Kd.V_drewN | apply Kd.V_drew)); exact (Kd.V_mono (Kd.V_far (p := ⟨gb501, 1, none⟩) (Kd.V_far (p := ⟨gb501, 0, none⟩) (Kd.V_mono HL492_0.out (fun k_ hk => (⟨hk, hk.2⟩ : _ ∧ k_ ≠ gb501))) (fun _ hk => hk.2) (.slice Ao76 t494.length co76)) (fun _ hk => hk.2) (.slice Ao81 t497.length co81)) (fun _ h_ => h_.1)))).2.2) hb); replace HL492_0 := Aside0.mk (Kd.V_below (by (with_reducible repeat (first | apply Kd.V_alloc | apply Kd.V_drewN | apply Kd.V_drew)); exact (Kd.V_mono (Kd.V_far (p := ⟨gb501, 1, none⟩) (Kd.V_far (p := ⟨gb501, 0, none⟩) (Kd.V_mono HL492_0.out (fun k_ hk => (⟨hk, hk.2⟩ : _ ∧ k_ ≠ gb501))) (fun _ hk => hk.2) (.slice Ao76 t494.length co76)) (fun _ hk => hk.2) (.slice Ao81 t497.length co81)) (fun _ h_ => h_.1))) hb); replace HR492_1 := Aside0.mk (Kd.C_below ((Kd.V_reads' (by (with_reducible repeat (first | apply Kd.V_alloc | apply Kd.V_drewN | apply Kd.V_drew)); exact (Kd.V_mono (Kd.V_far (p := ⟨gb501, 1, none⟩) (Kd.V_far (p := ⟨gb501, 0, none⟩) (Kd.V_mono HL492_1.out (fun k_ hk => (⟨hk, hk.2⟩ : _ ∧ k_ ≠ gb501))) (fun _ hk => hk.2) (.slice Ao76 t494.length co76)) (fun _ hk => hk.2) (.slice Ao81 t497.length co81)) (fun _ h_ => h_.1)))).2.2) hb); replace HL492_1 := Aside0.mk (Kd.V_below (by (with_reducible repeat (first | apply Kd.V_alloc | apply Kd.V_drewN | apply Kd.V_drew)); exact (Kd.V_mono (Kd.V_far (p := ⟨gb501, 1, none⟩) (Kd.V_far (p := ⟨gb501, 0, none⟩) (Kd.V_mono HL492_1.out (fun k_ hk => (⟨hk, hk.2⟩ : _ ∧ k_ ≠ gb501))) (fun _ hk => hk.2) (.slice Ao76 t494.length co76)) (fun _ hk => hk.2) (.slice Ao81 t497.length co81)) (fun _ h_ => h_.1))) hb); replace BK493 := Aside0.mk (blk_below (g := gb493) (o := .cells #[.slice A492_0 ((rd_T33 t457 x71_3).f0).length c492_0, .slice A492_1 ((rd_T33 t457 x71_3).f1).length c492_1] 33 (0, 0)) (by (with_reducible repeat (first | refine blk_drewN ?_ _ | refine blk_drew ?_ | refine blk_alloc ?_ _)); refine blk_far ?_ NB493_501.out _; (with_reducible repeat (first | refine blk_drewN ?_ _ | refine blk_drew ?_ | refine blk_alloc ?_ _)); refine blk_far ?_ NB493_501.out _; (with_reducible repeat (first | refine blk_drewN ?_ _ | refine blk_drew ?_ | refine blk_alloc ?_ _)); exact BK493.out) hb); replace BK501 := Aside0.mk (blk_below (g := gb501) (o := .cells #[.slice Ao76 t494.length co76, .slice Ao81 t497.length co81] 33 (0, 0)) qp_ hb); replace HB := b1_ hb; clear hb))
                            go_roundg k3
                            case measure => have := HJ7.out; have := HK2.out; have := HK3.out; omega
                            case rel => exact ⟨(true), (wrap64 (x71_3 + 1)), qc_, qc_, H', ⟨by have := HJ7.out; have := HK2.out; have := HK3.out; omega⟩, ⟨by (with_reducible repeat (first | apply Kd.N_alloc | apply Kd.N_drewN | apply Kd.N_drew)); exact Kd.N_mono HO_4.out (fun _ hk => ⟨hk.1.1.1.1.1, ⟨hk.1.1.1.1.2.1, ⟨hk.1.1.1.1.2.2.1, ⟨hk.1.1.1.1.2.2.2.1, ⟨hk.1.1.1.1.2.2.2.2.1, hk.1.1.1.1.2.2.2.2.2⟩⟩⟩⟩⟩)⟩, ⟨by (with_reducible repeat (first | apply Kd.N_alloc | apply Kd.N_drewN | apply Kd.N_drew)); exact Kd.N_mono HO_69.out (fun _ hk => ⟨hk.1.1.1.1.1, ⟨hk.1.1.1.1.2.1, ⟨hk.1.1.1.1.2.2.1, ⟨hk.1.1.1.1.2.2.2.1, ⟨hk.1.1.1.1.2.2.2.2.1, hk.1.1.1.1.2.2.2.2.2⟩⟩⟩⟩⟩)⟩, ⟨(rw_ (Kd.R_mono HO_483000.out (fun _ hk => ⟨hk.1.1.1, ⟨hk.1.1.2.1, hk.1.1.2.2⟩⟩)))⟩, ⟨(rw_ (Kd.R_mono HO_483001.out (fun _ hk => ⟨hk.1.1.1, ⟨hk.1.1.2.1, hk.1.1.2.2⟩⟩)))⟩, ⟨(rw_ (Kd.R_mono HO_491000.out (fun _ hk => ⟨hk.1.1.1, ⟨hk.1.1.2.1, hk.1.1.2.2⟩⟩)))⟩, ⟨(rw_ (Kd.R_mono HO_491001.out (fun _ hk => ⟨hk.1.1.1, ⟨hk.1.1.2.1, hk.1.1.2.2⟩⟩)))⟩, ⟨(kk_ BK482)⟩, ⟨(kk_ BK490)⟩, ⟨hB_⟩⟩
                          · replace c69 := Bool.eq_false_iff.mpr c69
                            subst c69
                            have H1 : (if t489 = true then ((impl_SameSurface.f k3 ((rd_T33 t457 x71_3).f0) ((rd_T33 t457 x71_3).f1) t483 t486).bind fun t503 => (laws_FnListed.l1 k3 t457 x5_2 t489 t503 t457 (t457.length : Int) (wrap64 (x71_3 + 1)) t476 t479 t483 t486)) else (laws_FnListed.l1 k3 t457 x5_2 t489 false t457 (t457.length : Int) (wrap64 (x71_3 + 1)) t476 t479 t483 t486)) = some r := by rw [if_neg (show ¬ (false = true) by decide)] at H; exact H
                            clear H
                            have H := H1
                            clear H1
                            by_cases c84 : t489 = true
                            · subst c84
                              rw [if_pos rfl] at H
                              obtain ⟨t503, A85, H⟩ := bi_ H
                              have H' := Aside0.mk H
                              clear H
                              have p492 : 0 ≤ (x71_3 : Int) := of_decide_eq_true qe_
                              have q492 : x71_3 < (t457.length : Int) := of_decide_eq_true qe_
                              obtain ⟨ad492, A492_0, c492_0, A492_1, c492_1, e492, hx492_0, hx492_1, hl492_0, hi492_0, hl492_1, hi492_1⟩ := at_T33 (Kd.N_reads' HO_69.out).2.2 x71_3 p492 q492
                              cases e492
                              obtain ⟨ce492, hce492, hMe492, hcc492⟩ := Kd.N_get HO_69.out z33 x71_3 p492 (by first | exact q492 | exact of_decide_eq_true qe_ | (have e_ := (Kd.N_reads' HO_69.out).1; omega))
                              obtain ⟨ua492_0, uc492_0, ua492_1, uc492_1, rfl, ul492_0, ge492_0, ul492_1, ge492_1⟩ := k33_openF hMe492
                              have hv492_0 := hcc492 0 _ rfl
                              rw [Nat.add_zero] at hv492_0
                              replace hv492_0 := Option.some.inj (hv492_0.symm.trans hx492_0)
                              injection hv492_0 with hva_ hvn_ hvc_
                              rw [hva_] at ge492_0
                              rw [hvc_] at ul492_0
                              have HL492_0 := Aside0.mk (show Kd.V (Kd.int .i64) 3 _ w.heap.size _ _ ((rd_T33 t457 x71_3).f0) from Kd.V_mk ul492_0 ge492_0)
                              clear hva_ hvn_ hvc_ ge492_0 ul492_0
                              have hv492_1 := hcc492 1 _ rfl
                              rw [add_field _ _ 1 (by omega)] at hv492_1
                              replace hv492_1 := Option.some.inj (hv492_1.symm.trans hx492_1)
                              injection hv492_1 with hva_ hvn_ hvc_
                              rw [hva_] at ge492_1
                              rw [hvc_] at ul492_1
                              have HL492_1 := Aside0.mk (show Kd.V (Kd.int .i64) 3 _ w.heap.size _ _ ((rd_T33 t457 x71_3).f1) from Kd.V_mk ul492_1 ge492_1)
                              clear hva_ hvn_ hvc_ ge492_1 ul492_1
                              clear hcc492 hce492
                              have HR492_0 := Aside0.mk hi492_0
                              have HC492_0 := Aside0.mk hl492_0
                              clear hi492_0 hl492_0
                              have HR492_1 := Aside0.mk hi492_1
                              have HC492_1 := Aside0.mk hl492_1
                              clear hi492_1 hl492_1
                              replace p492 := eq_true p492
                              replace q492 := eq_true q492
                              go_wp2_with (first | ((with_reducible refine gate_dst (N := 13) rfl ?_); (try (refine gate_guard (by rfl) ?_; dsimp only)); refine bx_ 13 #[.slice none 0 0, .slice none 0 0] 33 ?_; intro gb493 hg w86 hbox hb; replace HO_4 := Aside0.mk (Kd.N_below (Kd.N_elderB (by (with_reducible repeat (first | apply Kd.N_alloc | apply Kd.N_drewN | apply Kd.N_drew)); exact HO_4.out) gb493 (Nat.le_of_eq hg.symm)) hb); replace HO_69 := Aside0.mk (Kd.N_below (Kd.N_elderB (by (with_reducible repeat (first | apply Kd.N_alloc | apply Kd.N_drewN | apply Kd.N_drew)); exact HO_69.out) gb493 (Nat.le_of_eq hg.symm)) hb); replace HO_483000 := rb_ HO_483000 hb; replace HO_483001 := rb_ HO_483001 hb; replace HO_491000 := rb_ HO_491000 hb; replace HO_491001 := rb_ HO_491001 hb; replace HL492_0 := Aside0.mk (Kd.V_below (Kd.V_elderB (by (with_reducible repeat (first | apply Kd.V_alloc | apply Kd.V_drewN | apply Kd.V_drew)); exact HL492_0.out) gb493 (Nat.le_of_eq hg.symm)) hb); replace HL492_1 := Aside0.mk (Kd.V_below (Kd.V_elderB (by (with_reducible repeat (first | apply Kd.V_alloc | apply Kd.V_drewN | apply Kd.V_drew)); exact HL492_1.out) gb493 (Nat.le_of_eq hg.symm)) hb); replace HR492_0 := Aside0.mk (Kd.C_below (by repeat (first | (with_reducible exact HR492_0.out) | (with_reducible refine Kd.C_alloc ?_ _) | (with_reducible refine Kd.C_drewN ?_ _) | (with_reducible refine Kd.C_drew ?_) | exact HR492_0.out)) hb); replace HR492_1 := Aside0.mk (Kd.C_below (by repeat (first | (with_reducible exact HR492_1.out) | (with_reducible refine Kd.C_alloc ?_ _) | (with_reducible refine Kd.C_drewN ?_ _) | (with_reducible refine Kd.C_drew ?_) | exact HR492_1.out)) hb); have BK493 := Aside0.mk hbox; have GW493 := gw_ w hg; have GE493 := GW493; replace HB := b1_ hb; have NB482_493 := gN_ BK482 hg; have NB493_482 := gP_ BK482 hg; replace BK482 := bb_ BK482 hb; have NB490_493 := gN_ BK490 hg; have NB493_490 := gP_ BK490 hg; replace BK490 := bb_ BK490 hb; clear hb hbox hg; have hnb87 := NB493_482.out; have hnc87 := NB482_493.out; have hnb88 := NB493_490.out; have hnc88 := NB490_493.out; obtain ⟨hcz89_0, hcz89_1, hfz89_0, hfz89_1⟩ := c2_ BK493) | ((with_reducible refine gate_callee (f := 17) rfl ?_); refine gL_ (some 77) Try.func17 #[.agg #[.slice A492_0 ((rd_T33 t457 x71_3).f0).length c492_0, .slice A492_1 ((rd_T33 t457 x71_3).f1).length c492_1]] rfl qa_ ?_; (with_reducible refine (impl_CanonOf.calls k3 _ _ ((rd_T33 t457 x71_3).f0) _ _ ((rd_T33 t457 x71_3).f1) t494 t497 true _ ?side1 ?side2 ?side3 ?side4 A65.out).mono ?_); (case side1 => repeat (first | exact ((Kd.V_reads' (by (with_reducible repeat (first | apply Kd.V_alloc | apply Kd.V_drewN | apply Kd.V_drew)); exact (Kd.V_mono (Kd.V_far (p := ⟨gb493, 1, none⟩) (Kd.V_far (p := ⟨gb493, 0, none⟩) (Kd.V_mono HL492_0.out (fun k_ hk => (⟨hk, hk.2⟩ : _ ∧ k_ ≠ gb493))) (fun _ hk => hk.2) (.slice A492_0 ((rd_T33 t457 x71_3).f0).length c492_0)) (fun _ hk => hk.2) (.slice A492_1 ((rd_T33 t457 x71_3).f1).length c492_1)) (fun _ h_ => h_.1)))).2.2) | (with_reducible refine Kd.C_alloc ?_ _) | (with_reducible refine Kd.C_drewN ?_ _) | (with_reducible refine Kd.C_drew ?_))); (case side2 => exact HC492_0.out); (case side3 => repeat (first | exact ((Kd.V_reads' (by (with_reducible repeat (first | apply Kd.V_alloc | apply Kd.V_drewN | apply Kd.V_drew)); exact (Kd.V_mono (Kd.V_far (p := ⟨gb493, 1, none⟩) (Kd.V_far (p := ⟨gb493, 0, none⟩) (Kd.V_mono HL492_1.out (fun k_ hk => (⟨hk, hk.2⟩ : _ ∧ k_ ≠ gb493))) (fun _ hk => hk.2) (.slice A492_0 ((rd_T33 t457 x71_3).f0).length c492_0)) (fun _ hk => hk.2) (.slice A492_1 ((rd_T33 t457 x71_3).f1).length c492_1)) (fun _ h_ => h_.1)))).2.2) | (with_reducible refine Kd.C_alloc ?_ _) | (with_reducible refine Kd.C_drewN ?_ _) | (with_reducible refine Kd.C_drew ?_))); (case side4 => exact HC492_1.out); rintro e w90 ⟨v495, v498, rfl, ho0, ho1, hb⟩; refine ⟨_, rfl, ?_⟩; replace HO_4 := Aside0.mk (Kd.N_mono (Kd.N_told (Kd.N_told (Kd.N_old (by (with_reducible repeat (first | apply Kd.N_alloc | apply Kd.N_drewN | apply Kd.N_drew)); exact (Kd.N_mono (Kd.N_far (p := ⟨gb493, 1, none⟩) (Kd.N_far (p := ⟨gb493, 0, none⟩) (Kd.N_mono HO_4.out (fun k_ hk => (⟨hk, hk.2⟩ : _ ∧ k_ ≠ gb493))) (fun _ hk => hk.2) (.slice A492_0 ((rd_T33 t457 x71_3).f0).length c492_0)) (fun _ hk => hk.2) (.slice A492_1 ((rd_T33 t457 x71_3).f1).length c492_1)) (fun _ h_ => h_.1))) hb) (Kd.R_base ho0)) (Kd.R_base ho1)) (fun _ h_ => h_.1)); replace HO_69 := Aside0.mk (Kd.N_mono (Kd.N_told (Kd.N_told (Kd.N_old (by (with_reducible repeat (first | apply Kd.N_alloc | apply Kd.N_drewN | apply Kd.N_drew)); exact (Kd.N_mono (Kd.N_far (p := ⟨gb493, 1, none⟩) (Kd.N_far (p := ⟨gb493, 0, none⟩) (Kd.N_mono HO_69.out (fun k_ hk => (⟨hk, hk.2⟩ : _ ∧ k_ ≠ gb493))) (fun _ hk => hk.2) (.slice A492_0 ((rd_T33 t457 x71_3).f0).length c492_0)) (fun _ hk => hk.2) (.slice A492_1 ((rd_T33 t457 x71_3).f1).length c492_1)) (fun _ h_ => h_.1))) hb) (Kd.R_base ho0)) (Kd.R_base ho1)) (fun _ h_ => h_.1)); have HO496 := Aside0.mk (Kd.R_lower (Kd.R_new' (Kd.R_new' (Kd.R_new' (Kd.R_new' ho0 (Kd.R_lt (rw_ (Kd.R_mono (Kd.R_far (p := ⟨gb493, 1, none⟩) (Kd.R_far (p := ⟨gb493, 0, none⟩) (Kd.R_types HO_483000.out BK493.out (by decide)) (fun _ hk => hk.2) (.slice A492_0 ((rd_T33 t457 x71_3).f0).length c492_0)) (fun _ hk => hk.2) (.slice A492_1 ((rd_T33 t457 x71_3).f1).length c492_1)) (fun _ h_ => h_.1))))) (Kd.R_lt (rw_ (Kd.R_mono (Kd.R_far (p := ⟨gb493, 1, none⟩) (Kd.R_far (p := ⟨gb493, 0, none⟩) (Kd.R_types HO_483001.out BK493.out (by decide)) (fun _ hk => hk.2) (.slice A492_0 ((rd_T33 t457 x71_3).f0).length c492_0)) (fun _ hk => hk.2) (.slice A492_1 ((rd_T33 t457 x71_3).f1).length c492_1)) (fun _ h_ => h_.1))))) (Kd.R_lt (rw_ (Kd.R_mono (Kd.R_far (p := ⟨gb493, 1, none⟩) (Kd.R_far (p := ⟨gb493, 0, none⟩) (Kd.R_types HO_491000.out BK493.out (by decide)) (fun _ hk => hk.2) (.slice A492_0 ((rd_T33 t457 x71_3).f0).length c492_0)) (fun _ hk => hk.2) (.slice A492_1 ((rd_T33 t457 x71_3).f1).length c492_1)) (fun _ h_ => h_.1))))) (Kd.R_lt (rw_ (Kd.R_mono (Kd.R_far (p := ⟨gb493, 1, none⟩) (Kd.R_far (p := ⟨gb493, 0, none⟩) (Kd.R_types HO_491001.out BK493.out (by decide)) (fun _ hk => hk.2) (.slice A492_0 ((rd_T33 t457 x71_3).f0).length c492_0)) (fun _ hk => hk.2) (.slice A492_1 ((rd_T33 t457 x71_3).f1).length c492_1)) (fun _ h_ => h_.1))))) (below_size hB_)); have HO499 := Aside0.mk (Kd.R_lower (Kd.R_new' (Kd.R_new' (Kd.R_new' (Kd.R_new' ho1 (Kd.R_lt (rw_ (Kd.R_mono (Kd.R_far (p := ⟨gb493, 1, none⟩) (Kd.R_far (p := ⟨gb493, 0, none⟩) (Kd.R_types HO_483000.out BK493.out (by decide)) (fun _ hk => hk.2) (.slice A492_0 ((rd_T33 t457 x71_3).f0).length c492_0)) (fun _ hk => hk.2) (.slice A492_1 ((rd_T33 t457 x71_3).f1).length c492_1)) (fun _ h_ => h_.1))))) (Kd.R_lt (rw_ (Kd.R_mono (Kd.R_far (p := ⟨gb493, 1, none⟩) (Kd.R_far (p := ⟨gb493, 0, none⟩) (Kd.R_types HO_483001.out BK493.out (by decide)) (fun _ hk => hk.2) (.slice A492_0 ((rd_T33 t457 x71_3).f0).length c492_0)) (fun _ hk => hk.2) (.slice A492_1 ((rd_T33 t457 x71_3).f1).length c492_1)) (fun _ h_ => h_.1))))) (Kd.R_lt (rw_ (Kd.R_mono (Kd.R_far (p := ⟨gb493, 1, none⟩) (Kd.R_far (p := ⟨gb493, 0, none⟩) (Kd.R_types HO_491000.out BK493.out (by decide)) (fun _ hk => hk.2) (.slice A492_0 ((rd_T33 t457 x71_3).f0).length c492_0)) (fun _ hk => hk.2) (.slice A492_1 ((rd_T33 t457 x71_3).f1).length c492_1)) (fun _ h_ => h_.1))))) (Kd.R_lt (rw_ (Kd.R_mono (Kd.R_far (p := ⟨gb493, 1, none⟩) (Kd.R_far (p := ⟨gb493, 0, none⟩) (Kd.R_types HO_491001.out BK493.out (by decide)) (fun _ hk => hk.2) (.slice A492_0 ((rd_T33 t457 x71_3).f0).length c492_0)) (fun _ hk => hk.2) (.slice A492_1 ((rd_T33 t457 x71_3).f1).length c492_1)) (fun _ h_ => h_.1))))) (below_size hB_)); replace HO_483000 := Aside0.mk (Kd.R_mono (Kd.R_told (Kd.R_told (Kd.R_old (rw_ (Kd.R_mono (Kd.R_far (p := ⟨gb493, 1, none⟩) (Kd.R_far (p := ⟨gb493, 0, none⟩) (Kd.R_types HO_483000.out BK493.out (by decide)) (fun _ hk => hk.2) (.slice A492_0 ((rd_T33 t457 x71_3).f0).length c492_0)) (fun _ hk => hk.2) (.slice A492_1 ((rd_T33 t457 x71_3).f1).length c492_1)) (fun _ h_ => h_.1))) hb) (Kd.R_base ho0)) (Kd.R_base ho1)) (fun _ h_ => h_.1)); replace HO_483001 := Aside0.mk (Kd.R_mono (Kd.R_told (Kd.R_told (Kd.R_old (rw_ (Kd.R_mono (Kd.R_far (p := ⟨gb493, 1, none⟩) (Kd.R_far (p := ⟨gb493, 0, none⟩) (Kd.R_types HO_483001.out BK493.out (by decide)) (fun _ hk => hk.2) (.slice A492_0 ((rd_T33 t457 x71_3).f0).length c492_0)) (fun _ hk => hk.2) (.slice A492_1 ((rd_T33 t457 x71_3).f1).length c492_1)) (fun _ h_ => h_.1))) hb) (Kd.R_base ho0)) (Kd.R_base ho1)) (fun _ h_ => h_.1)); replace HO_491000 := Aside0.mk (Kd.R_mono (Kd.R_told (Kd.R_told (Kd.R_old (rw_ (Kd.R_mono (Kd.R_far (p := ⟨gb493, 1, none⟩) (Kd.R_far (p := ⟨gb493, 0, none⟩) (Kd.R_types HO_491000.out BK493.out (by decide)) (fun _ hk => hk.2) (.slice A492_0 ((rd_T33 t457 x71_3).f0).length c492_0)) (fun _ hk => hk.2) (.slice A492_1 ((rd_T33 t457 x71_3).f1).length c492_1)) (fun _ h_ => h_.1))) hb) (Kd.R_base ho0)) (Kd.R_base ho1)) (fun _ h_ => h_.1)); replace HO_491001 := Aside0.mk (Kd.R_mono (Kd.R_told (Kd.R_told (Kd.R_old (rw_ (Kd.R_mono (Kd.R_far (p := ⟨gb493, 1, none⟩) (Kd.R_far (p := ⟨gb493, 0, none⟩) (Kd.R_types HO_491001.out BK493.out (by decide)) (fun _ hk => hk.2) (.slice A492_0 ((rd_T33 t457 x71_3).f0).length c492_0)) (fun _ hk => hk.2) (.slice A492_1 ((rd_T33 t457 x71_3).f1).length c492_1)) (fun _ h_ => h_.1))) hb) (Kd.R_base ho0)) (Kd.R_base ho1)) (fun _ h_ => h_.1)); replace BK482 := Aside0.mk (blk_below (g := gb482) (o := .cells #[.slice Ao52 t476.length co52, .slice Ao51 t479.length co51] 33 (0, 0)) (by (with_reducible repeat (first | refine blk_drewN ?_ _ | refine blk_drew ?_ | refine blk_alloc ?_ _)); refine blk_far ?_ NB482_493.out _; (with_reducible repeat (first | refine blk_drewN ?_ _ | refine blk_drew ?_ | refine blk_alloc ?_ _)); refine blk_far ?_ NB482_493.out _; (with_reducible repeat (first | refine blk_drewN ?_ _ | refine blk_drew ?_ | refine blk_alloc ?_ _)); exact BK482.out) hb); replace BK490 := Aside0.mk (blk_below (g := gb490) (o := .cells #[.slice Ao57 t483.length co57, .slice Ao60 t486.length co60] 33 (0, 0)) (by (with_reducible repeat (first | refine blk_drewN ?_ _ | refine blk_drew ?_ | refine blk_alloc ?_ _)); refine blk_far ?_ NB490_493.out _; (with_reducible repeat (first | refine blk_drewN ?_ _ | refine blk_drew ?_ | refine blk_alloc ?_ _)); refine blk_far ?_ NB490_493.out _; (with_reducible repeat (first | refine blk_drewN ?_ _ | refine blk_drew ?_ | refine blk_alloc ?_ _)); exact BK490.out) hb); replace HR492_0 := Aside0.mk (Kd.C_below ((Kd.V_reads' (by (with_reducible repeat (first | apply Kd.V_alloc | apply Kd.V_drewN | apply Kd.V_drew)); exact (Kd.V_mono (Kd.V_far (p := ⟨gb493, 1, none⟩) (Kd.V_far (p := ⟨gb493, 0, none⟩) (Kd.V_mono HL492_0.out (fun k_ hk => (⟨hk, hk.2⟩ : _ ∧ k_ ≠ gb493))) (fun _ hk => hk.2) (.slice A492_0 ((rd_T33 t457 x71_3).f0).length c492_0)) (fun _ hk => hk.2) (.slice A492_1 ((rd_T33 t457 x71_3).f1).length c492_1)) (fun _ h_ => h_.1)))).2.2) hb); replace HL492_0 := Aside0.mk (Kd.V_mono (Kd.V_told (Kd.V_told (Kd.V_old (by (with_reducible repeat (first | apply Kd.V_alloc | apply Kd.V_drewN | apply Kd.V_drew)); exact (Kd.V_mono (Kd.V_far (p := ⟨gb493, 1, none⟩) (Kd.V_far (p := ⟨gb493, 0, none⟩) (Kd.V_mono HL492_0.out (fun k_ hk => (⟨hk, hk.2⟩ : _ ∧ k_ ≠ gb493))) (fun _ hk => hk.2) (.slice A492_0 ((rd_T33 t457 x71_3).f0).length c492_0)) (fun _ hk => hk.2) (.slice A492_1 ((rd_T33 t457 x71_3).f1).length c492_1)) (fun _ h_ => h_.1))) hb) (Kd.R_base ho0)) (Kd.R_base ho1)) (fun _ h_ => h_.1)); replace HR492_1 := Aside0.mk (Kd.C_below ((Kd.V_reads' (by (with_reducible repeat (first | apply Kd.V_alloc | apply Kd.V_drewN | apply Kd.V_drew)); exact (Kd.V_mono (Kd.V_far (p := ⟨gb493, 1, none⟩) (Kd.V_far (p := ⟨gb493, 0, none⟩) (Kd.V_mono HL492_1.out (fun k_ hk => (⟨hk, hk.2⟩ : _ ∧ k_ ≠ gb493))) (fun _ hk => hk.2) (.slice A492_0 ((rd_T33 t457 x71_3).f0).length c492_0)) (fun _ hk => hk.2) (.slice A492_1 ((rd_T33 t457 x71_3).f1).length c492_1)) (fun _ h_ => h_.1)))).2.2) hb); replace HL492_1 := Aside0.mk (Kd.V_mono (Kd.V_told (Kd.V_told (Kd.V_old (by (with_reducible repeat (first | apply Kd.V_alloc | apply Kd.V_drewN | apply Kd.V_drew)); exact (Kd.V_mono (Kd.V_far (p := ⟨gb493, 1, none⟩) (Kd.V_far (p := ⟨gb493, 0, none⟩) (Kd.V_mono HL492_1.out (fun k_ hk => (⟨hk, hk.2⟩ : _ ∧ k_ ≠ gb493))) (fun _ hk => hk.2) (.slice A492_0 ((rd_T33 t457 x71_3).f0).length c492_0)) (fun _ hk => hk.2) (.slice A492_1 ((rd_T33 t457 x71_3).f1).length c492_1)) (fun _ h_ => h_.1))) hb) (Kd.R_base ho0)) (Kd.R_base ho1)) (fun _ h_ => h_.1)); replace BK493 := Aside0.mk (blk_below (g := gb493) (o := .cells #[.slice A492_0 ((rd_T33 t457 x71_3).f0).length c492_0, .slice A492_1 ((rd_T33 t457 x71_3).f1).length c492_1] 33 (0, 0)) qp_ hb); replace HB := b1_ hb; clear hb ho0 ho1) | ((with_reducible refine gate_dst (N := 14) rfl ?_); (try (refine gate_guard (by rfl) ?_; dsimp only)); refine bx_ 14 #[.slice none 0 0, .slice none 0 0] 33 ?_; intro gb501 hg w91 hbox hb; replace HO_4 := Aside0.mk (Kd.N_below (Kd.N_elderB (by (with_reducible repeat (first | apply Kd.N_alloc | apply Kd.N_drewN | apply Kd.N_drew)); exact HO_4.out) gb501 (Nat.le_of_eq hg.symm)) hb); replace HO_69 := Aside0.mk (Kd.N_below (Kd.N_elderB (by (with_reducible repeat (first | apply Kd.N_alloc | apply Kd.N_drewN | apply Kd.N_drew)); exact HO_69.out) gb501 (Nat.le_of_eq hg.symm)) hb); replace HO_483000 := rb_ HO_483000 hb; replace HO_483001 := rb_ HO_483001 hb; replace HO_491000 := rb_ HO_491000 hb; replace HO_491001 := rb_ HO_491001 hb; replace HL492_0 := Aside0.mk (Kd.V_below (Kd.V_elderB (by (with_reducible repeat (first | apply Kd.V_alloc | apply Kd.V_drewN | apply Kd.V_drew)); exact HL492_0.out) gb501 (Nat.le_of_eq hg.symm)) hb); replace HL492_1 := Aside0.mk (Kd.V_below (Kd.V_elderB (by (with_reducible repeat (first | apply Kd.V_alloc | apply Kd.V_drewN | apply Kd.V_drew)); exact HL492_1.out) gb501 (Nat.le_of_eq hg.symm)) hb); replace HO496 := rb_ HO496 hb; replace HO499 := rb_ HO499 hb; replace HR492_0 := Aside0.mk (Kd.C_below (by repeat (first | (with_reducible exact HR492_0.out) | (with_reducible refine Kd.C_alloc ?_ _) | (with_reducible refine Kd.C_drewN ?_ _) | (with_reducible refine Kd.C_drew ?_) | exact HR492_0.out)) hb); replace HR492_1 := Aside0.mk (Kd.C_below (by repeat (first | (with_reducible exact HR492_1.out) | (with_reducible refine Kd.C_alloc ?_ _) | (with_reducible refine Kd.C_drewN ?_ _) | (with_reducible refine Kd.C_drew ?_) | exact HR492_1.out)) hb); have BK501 := Aside0.mk hbox; have GW501 := gw_ w hg; have GE501 := GW501; replace HB := b1_ hb; have NB482_501 := gN_ BK482 hg; have NB501_482 := gP_ BK482 hg; replace BK482 := bb_ BK482 hb; have NB490_501 := gN_ BK490 hg; have NB501_490 := gP_ BK490 hg; replace BK490 := bb_ BK490 hb; have NB493_501 := gN_ BK493 hg; have NB501_493 := gP_ BK493 hg; replace BK493 := bb_ BK493 hb; clear hb hbox hg; obtain ⟨Ao92, co92, eo92⟩ := Kd.R_slice HO496.out; subst eo92; have hnb93 := NB501_482.out; have hnc93 := NB482_501.out; have hnb94 := NB501_490.out; have hnc94 := NB490_501.out; have hnb95 := NB501_493.out; have hnc95 := NB493_501.out; obtain ⟨hcz96_0, hcz96_1, hfz96_0, hfz96_1⟩ := c2_ BK501; obtain ⟨Ao97, co97, eo97⟩ := Kd.R_slice HO499.out; subst eo97; have hcz98_0 : w91.cell? ⟨gb493, 0, none⟩ = some (.slice A492_0 ((rd_T33 t457 x71_3).f0).length c492_0) := cz0_ BK493; have hcz98_1 : w91.cell? ⟨gb493, 1, none⟩ = some (.slice A492_1 ((rd_T33 t457 x71_3).f1).length c492_1) := cz1_ BK493; have hfz98_0 := blk_frozen BK493.out 0; have hfz98_1 := blk_frozen BK493.out 1) | (go_at_call 18; (with_reducible refine (impl_SameSurface.calls k3 _ _ ((rd_T33 t457 x71_3).f0) _ _ ((rd_T33 t457 x71_3).f1) _ _ t494 _ _ t497 true _ ?side1 ?side2 ?side3 ?side4 ?side5 ?side6 ?side7 ?side8 A67.out).mono ?_); (case side1 => repeat (first | exact ((Kd.V_reads' (by (with_reducible repeat (first | apply Kd.V_alloc | apply Kd.V_drewN | apply Kd.V_drew)); exact (Kd.V_mono (Kd.V_far (p := ⟨gb501, 1, none⟩) (Kd.V_far (p := ⟨gb501, 0, none⟩) (Kd.V_mono HL492_0.out (fun k_ hk => (⟨hk, hk.2⟩ : _ ∧ k_ ≠ gb501))) (fun _ hk => hk.2) (.slice Ao92 t494.length co92)) (fun _ hk => hk.2) (.slice Ao97 t497.length co97)) (fun _ h_ => h_.1)))).2.2) | (with_reducible refine Kd.C_alloc ?_ _) | (with_reducible refine Kd.C_drewN ?_ _) | (with_reducible refine Kd.C_drew ?_))); (case side2 => exact HC492_0.out); (case side3 => repeat (first | exact ((Kd.V_reads' (by (with_reducible repeat (first | apply Kd.V_alloc | apply Kd.V_drewN | apply Kd.V_drew)); exact (Kd.V_mono (Kd.V_far (p := ⟨gb501, 1, none⟩) (Kd.V_far (p := ⟨gb501, 0, none⟩) (Kd.V_mono HL492_1.out (fun k_ hk => (⟨hk, hk.2⟩ : _ ∧ k_ ≠ gb501))) (fun _ hk => hk.2) (.slice Ao92 t494.length co92)) (fun _ hk => hk.2) (.slice Ao97 t497.length co97)) (fun _ h_ => h_.1)))).2.2) | (with_reducible refine Kd.C_alloc ?_ _) | (with_reducible refine Kd.C_drewN ?_ _) | (with_reducible refine Kd.C_drew ?_))); (case side4 => exact HC492_1.out); (case side5 => refine (Kd.R_reads' (e := 3) (base := w.heap.size) (ok := fun k_ => ((((some k_ ≠ (.slice Ao97 t497.length co97 : Value).ownBlock ∧ some k_ ≠ (.slice Ao52 t476.length co52 : Value).ownBlock) ∧ some k_ ≠ (.slice Ao51 t479.length co51 : Value).ownBlock) ∧ some k_ ≠ (.slice Ao57 t483.length co57 : Value).ownBlock) ∧ some k_ ≠ (.slice Ao60 t486.length co60 : Value).ownBlock)) (n := t494.length) (c := co92) ?_).2.2; exact (rw_ (fa_ HO496 BK501))); (case side6 => exact (Kd.R_reads' HO496.out).2.1); (case side7 => refine (Kd.R_reads' (e := 3) (base := w.heap.size) (ok := fun k_ => ((((some k_ ≠ (.slice Ao92 t494.length co92 : Value).ownBlock ∧ some k_ ≠ (.slice Ao52 t476.length co52 : Value).ownBlock) ∧ some k_ ≠ (.slice Ao51 t479.length co51 : Value).ownBlock) ∧ some k_ ≠ (.slice Ao57 t483.length co57 : Value).ownBlock) ∧ some k_ ≠ (.slice Ao60 t486.length co60 : Value).ownBlock)) (n := t497.length) (c := co97) ?_).2.2; exact (rw_ (fa_ HO499 BK501))); (case side8 => exact (Kd.R_reads' HO499.out).2.1); rintro e w99 ⟨rfl, hb⟩; replace HO_4 := Aside0.mk (Kd.N_below (by (with_reducible repeat (first | apply Kd.N_alloc | apply Kd.N_drewN | apply Kd.N_drew)); exact (Kd.N_mono (Kd.N_far (p := ⟨gb501, 1, none⟩) (Kd.N_far (p := ⟨gb501, 0, none⟩) (Kd.N_mono HO_4.out (fun k_ hk => (⟨hk, hk.2⟩ : _ ∧ k_ ≠ gb501))) (fun _ hk => hk.2) (.slice Ao92 t494.length co92)) (fun _ hk => hk.2) (.slice Ao97 t497.length co97)) (fun _ h_ => h_.1))) hb); replace HO_69 := Aside0.mk (Kd.N_below (by (with_reducible repeat (first | apply Kd.N_alloc | apply Kd.N_drewN | apply Kd.N_drew)); exact (Kd.N_mono (Kd.N_far (p := ⟨gb501, 1, none⟩) (Kd.N_far (p := ⟨gb501, 0, none⟩) (Kd.N_mono HO_69.out (fun k_ hk => (⟨hk, hk.2⟩ : _ ∧ k_ ≠ gb501))) (fun _ hk => hk.2) (.slice Ao92 t494.length co92)) (fun _ hk => hk.2) (.slice Ao97 t497.length co97)) (fun _ h_ => h_.1))) hb); replace HO_483000 := Aside0.mk (Kd.R_below (rw_ (fa_ HO_483000 BK501)) hb); replace HO_483001 := Aside0.mk (Kd.R_below (rw_ (fa_ HO_483001 BK501)) hb); replace HO_491000 := Aside0.mk (Kd.R_below (rw_ (fa_ HO_491000 BK501)) hb); replace HO_491001 := Aside0.mk (Kd.R_below (rw_ (fa_ HO_491001 BK501)) hb); replace HO496 := Aside0.mk (Kd.R_below (rw_ (fa_ HO496 BK501)) hb); replace HO499 := Aside0.mk (Kd.R_below (rw_ (fa_ HO499 BK501)) hb); replace BK482 := Aside0.mk (blk_below (g := gb482) (o := .cells #[.slice Ao52 t476.length co52, .slice Ao51 t479.length co51] 33 (0, 0)) (by (with_reducible repeat (first | refine blk_drewN ?_ _ | refine blk_drew ?_ | refine blk_alloc ?_ _)); refine blk_far ?_ NB482_501.out _; (with_reducible repeat (first | refine blk_drewN ?_ _ | refine blk_drew ?_ | refine blk_alloc ?_ _)); refine blk_far ?_ NB482_501.out _; (with_reducible repeat (first | refine blk_drewN ?_ _ | refine blk_drew ?_ | refine blk_alloc ?_ _)); exact BK482.out) hb); replace BK490 := Aside0.mk (blk_below (g := gb490) (o := .cells #[.slice Ao57 t483.length co57, .slice Ao60 t486.length co60] 33 (0, 0)) (by (with_reducible repeat (first | refine blk_drewN ?_ _ | refine blk_drew ?_ | refine blk_alloc ?_ _)); refine blk_far ?_ NB490_501.out _; (with_reducible repeat (first | refine blk_drewN ?_ _ | refine blk_drew ?_ | refine blk_alloc ?_ _)); refine blk_far ?_ NB490_501.out _; (with_reducible repeat (first | refine blk_drewN ?_ _ | refine blk_drew ?_ | refine blk_alloc ?_ _)); exact BK490.out) hb); replace HR492_0 := Aside0.mk (Kd.C_below ((Kd.V_reads' (by (with_reducible repeat (first | apply Kd.V_alloc | apply Kd.V_drewN | apply Kd.V_drew)); exact (Kd.V_mono (Kd.V_far (p := ⟨gb501, 1, none⟩) (Kd.V_far (p := ⟨gb501, 0, none⟩) (Kd.V_mono HL492_0.out (fun k_ hk => (⟨hk, hk.2⟩ : _ ∧ k_ ≠ gb501))) (fun _ hk => hk.2) (.slice Ao92 t494.length co92)) (fun _ hk => hk.2) (.slice Ao97 t497.length co97)) (fun _ h_ => h_.1)))).2.2) hb); replace HL492_0 := Aside0.mk (Kd.V_below (by (with_reducible repeat (first | apply Kd.V_alloc | apply Kd.V_drewN | apply Kd.V_drew)); exact (Kd.V_mono (Kd.V_far (p := ⟨gb501, 1, none⟩) (Kd.V_far (p := ⟨gb501, 0, none⟩) (Kd.V_mono HL492_0.out (fun k_ hk => (⟨hk, hk.2⟩ : _ ∧ k_ ≠ gb501))) (fun _ hk => hk.2) (.slice Ao92 t494.length co92)) (fun _ hk => hk.2) (.slice Ao97 t497.length co97)) (fun _ h_ => h_.1))) hb); replace HR492_1 := Aside0.mk (Kd.C_below ((Kd.V_reads' (by (with_reducible repeat (first | apply Kd.V_alloc | apply Kd.V_drewN | apply Kd.V_drew)); exact (Kd.V_mono (Kd.V_far (p := ⟨gb501, 1, none⟩) (Kd.V_far (p := ⟨gb501, 0, none⟩) (Kd.V_mono HL492_1.out (fun k_ hk => (⟨hk, hk.2⟩ : _ ∧ k_ ≠ gb501))) (fun _ hk => hk.2) (.slice Ao92 t494.length co92)) (fun _ hk => hk.2) (.slice Ao97 t497.length co97)) (fun _ h_ => h_.1)))).2.2) hb); replace HL492_1 := Aside0.mk (Kd.V_below (by (with_reducible repeat (first | apply Kd.V_alloc | apply Kd.V_drewN | apply Kd.V_drew)); exact (Kd.V_mono (Kd.V_far (p := ⟨gb501, 1, none⟩) (Kd.V_far (p := ⟨gb501, 0, none⟩) (Kd.V_mono HL492_1.out (fun k_ hk => (⟨hk, hk.2⟩ : _ ∧ k_ ≠ gb501))) (fun _ hk => hk.2) (.slice Ao92 t494.length co92)) (fun _ hk => hk.2) (.slice Ao97 t497.length co97)) (fun _ h_ => h_.1))) hb); replace BK493 := Aside0.mk (blk_below (g := gb493) (o := .cells #[.slice A492_0 ((rd_T33 t457 x71_3).f0).length c492_0, .slice A492_1 ((rd_T33 t457 x71_3).f1).length c492_1] 33 (0, 0)) (by (with_reducible repeat (first | refine blk_drewN ?_ _ | refine blk_drew ?_ | refine blk_alloc ?_ _)); refine blk_far ?_ NB493_501.out _; (with_reducible repeat (first | refine blk_drewN ?_ _ | refine blk_drew ?_ | refine blk_alloc ?_ _)); refine blk_far ?_ NB493_501.out _; (with_reducible repeat (first | refine blk_drewN ?_ _ | refine blk_drew ?_ | refine blk_alloc ?_ _)); exact BK493.out) hb); replace BK501 := Aside0.mk (blk_below (g := gb501) (o := .cells #[.slice Ao92 t494.length co92, .slice Ao97 t497.length co97] 33 (0, 0)) qp_ hb); replace HB := b1_ hb; clear hb; have hcz100_0 : w99.cell? ⟨gb493, 0, none⟩ = some (.slice A492_0 ((rd_T33 t457 x71_3).f0).length c492_0) := cz0_ BK493; have hcz100_1 : w99.cell? ⟨gb493, 1, none⟩ = some (.slice A492_1 ((rd_T33 t457 x71_3).f1).length c492_1) := cz1_ BK493; have hfz100_0 := blk_frozen BK493.out 0; have hfz100_1 := blk_frozen BK493.out 1; have hnb101 := NB490_482.out; have hnc101 := NB482_490.out; obtain ⟨hcz102_0, hcz102_1, hfz102_0, hfz102_1⟩ := c2_ BK490) | (go_at_call 18; (with_reducible refine (impl_SameSurface.calls k3 _ _ ((rd_T33 t457 x71_3).f0) _ _ ((rd_T33 t457 x71_3).f1) _ _ t483 _ _ t486 t503 _ ?side1 ?side2 ?side3 ?side4 ?side5 ?side6 ?side7 ?side8 A85.out).mono ?_); (case side1 => repeat (first | exact (by repeat (first | (with_reducible exact HR492_0.out) | (with_reducible refine Kd.C_alloc ?_ _) | (with_reducible refine Kd.C_drewN ?_ _) | (with_reducible refine Kd.C_drew ?_) | exact HR492_0.out)) | (with_reducible refine Kd.C_alloc ?_ _) | (with_reducible refine Kd.C_drewN ?_ _) | (with_reducible refine Kd.C_drew ?_))); (case side2 => exact HC492_0.out); (case side3 => repeat (first | exact (by repeat (first | (with_reducible exact HR492_1.out) | (with_reducible refine Kd.C_alloc ?_ _) | (with_reducible refine Kd.C_drewN ?_ _) | (with_reducible refine Kd.C_drew ?_) | exact HR492_1.out)) | (with_reducible refine Kd.C_alloc ?_ _) | (with_reducible refine Kd.C_drewN ?_ _) | (with_reducible refine Kd.C_drew ?_))); (case side4 => exact HC492_1.out); (case side5 => exact cr_ HO_491000); (case side6 => exact (Kd.R_reads' HO_491000.out).2.1); (case side7 => exact cr_ HO_491001); (case side8 => exact (Kd.R_reads' HO_491001.out).2.1); rintro e w103 ⟨rfl, hb⟩; replace HO_4 := Aside0.mk (Kd.N_below (by (with_reducible repeat (first | apply Kd.N_alloc | apply Kd.N_drewN | apply Kd.N_drew)); exact HO_4.out) hb); replace HO_69 := Aside0.mk (Kd.N_below (by (with_reducible repeat (first | apply Kd.N_alloc | apply Kd.N_drewN | apply Kd.N_drew)); exact HO_69.out) hb); replace HO_483000 := rb_ HO_483000 hb; replace HO_483001 := rb_ HO_483001 hb; replace HO_491000 := rb_ HO_491000 hb; replace HO_491001 := rb_ HO_491001 hb; replace HL492_0 := Aside0.mk (Kd.V_below (by (with_reducible repeat (first | apply Kd.V_alloc | apply Kd.V_drewN | apply Kd.V_drew)); exact HL492_0.out) hb); replace HL492_1 := Aside0.mk (Kd.V_below (by (with_reducible repeat (first | apply Kd.V_alloc | apply Kd.V_drewN | apply Kd.V_drew)); exact HL492_1.out) hb); replace HO496 := rb_ HO496 hb; replace HO499 := rb_ HO499 hb; replace BK482 := bb_ BK482 hb; replace BK490 := bb_ BK490 hb; replace HR492_0 := Aside0.mk (Kd.C_below (by repeat (first | (with_reducible exact HR492_0.out) | (with_reducible refine Kd.C_alloc ?_ _) | (with_reducible refine Kd.C_drewN ?_ _) | (with_reducible refine Kd.C_drew ?_) | exact HR492_0.out)) hb); replace HR492_1 := Aside0.mk (Kd.C_below (by repeat (first | (with_reducible exact HR492_1.out) | (with_reducible refine Kd.C_alloc ?_ _) | (with_reducible refine Kd.C_drewN ?_ _) | (with_reducible refine Kd.C_drew ?_) | exact HR492_1.out)) hb); replace BK493 := bb_ BK493 hb; replace BK501 := bb_ BK501 hb; replace HB := b1_ hb; clear hb))
                              go_roundg k3
                              case measure => have := HJ7.out; have := HK2.out; have := HK3.out; omega
                              case rel => exact ⟨(t503), (wrap64 (x71_3 + 1)), qc_, qc_, H', ⟨by have := HJ7.out; have := HK2.out; have := HK3.out; omega⟩, ⟨by (with_reducible repeat (first | apply Kd.N_alloc | apply Kd.N_drewN | apply Kd.N_drew)); exact Kd.N_mono HO_4.out (fun _ hk => ⟨hk.1.1.1.1.1, ⟨hk.1.1.1.1.2.1, ⟨hk.1.1.1.1.2.2.1, ⟨hk.1.1.1.1.2.2.2.1, ⟨hk.1.1.1.1.2.2.2.2.1, hk.1.1.1.1.2.2.2.2.2⟩⟩⟩⟩⟩)⟩, ⟨by (with_reducible repeat (first | apply Kd.N_alloc | apply Kd.N_drewN | apply Kd.N_drew)); exact Kd.N_mono HO_69.out (fun _ hk => ⟨hk.1.1.1.1.1, ⟨hk.1.1.1.1.2.1, ⟨hk.1.1.1.1.2.2.1, ⟨hk.1.1.1.1.2.2.2.1, ⟨hk.1.1.1.1.2.2.2.2.1, hk.1.1.1.1.2.2.2.2.2⟩⟩⟩⟩⟩)⟩, ⟨(rw_ (Kd.R_mono HO_483000.out (fun _ hk => ⟨hk.1.1.1, ⟨hk.1.1.2.1, hk.1.1.2.2⟩⟩)))⟩, ⟨(rw_ (Kd.R_mono HO_483001.out (fun _ hk => ⟨hk.1.1.1, ⟨hk.1.1.2.1, hk.1.1.2.2⟩⟩)))⟩, ⟨(rw_ (Kd.R_mono HO_491000.out (fun _ hk => ⟨hk.1.1.1, ⟨hk.1.1.2.1, hk.1.1.2.2⟩⟩)))⟩, ⟨(rw_ (Kd.R_mono HO_491001.out (fun _ hk => ⟨hk.1.1.1, ⟨hk.1.1.2.1, hk.1.1.2.2⟩⟩)))⟩, ⟨(kk_ BK482)⟩, ⟨(kk_ BK490)⟩, ⟨hB_⟩⟩
                            · replace c84 := Bool.eq_false_iff.mpr c84
                              subst c84
                              have H1 : (laws_FnListed.l1 k3 t457 x5_2 false false t457 (t457.length : Int) (wrap64 (x71_3 + 1)) t476 t479 t483 t486) = some r := by rw [if_neg (show ¬ (false = true) by decide)] at H; exact H
                              clear H
                              have H := H1
                              clear H1
                              have H' := Aside0.mk H
                              clear H
                              have p492 : 0 ≤ (x71_3 : Int) := of_decide_eq_true qe_
                              have q492 : x71_3 < (t457.length : Int) := of_decide_eq_true qe_
                              obtain ⟨ad492, A492_0, c492_0, A492_1, c492_1, e492, hx492_0, hx492_1, hl492_0, hi492_0, hl492_1, hi492_1⟩ := at_T33 (Kd.N_reads' HO_69.out).2.2 x71_3 p492 q492
                              cases e492
                              obtain ⟨ce492, hce492, hMe492, hcc492⟩ := Kd.N_get HO_69.out z33 x71_3 p492 (by first | exact q492 | exact of_decide_eq_true qe_ | (have e_ := (Kd.N_reads' HO_69.out).1; omega))
                              obtain ⟨ua492_0, uc492_0, ua492_1, uc492_1, rfl, ul492_0, ge492_0, ul492_1, ge492_1⟩ := k33_openF hMe492
                              have hv492_0 := hcc492 0 _ rfl
                              rw [Nat.add_zero] at hv492_0
                              replace hv492_0 := Option.some.inj (hv492_0.symm.trans hx492_0)
                              injection hv492_0 with hva_ hvn_ hvc_
                              rw [hva_] at ge492_0
                              rw [hvc_] at ul492_0
                              have HL492_0 := Aside0.mk (show Kd.V (Kd.int .i64) 3 _ w.heap.size _ _ ((rd_T33 t457 x71_3).f0) from Kd.V_mk ul492_0 ge492_0)
                              clear hva_ hvn_ hvc_ ge492_0 ul492_0
                              have hv492_1 := hcc492 1 _ rfl
                              rw [add_field _ _ 1 (by omega)] at hv492_1
                              replace hv492_1 := Option.some.inj (hv492_1.symm.trans hx492_1)
                              injection hv492_1 with hva_ hvn_ hvc_
                              rw [hva_] at ge492_1
                              rw [hvc_] at ul492_1
                              have HL492_1 := Aside0.mk (show Kd.V (Kd.int .i64) 3 _ w.heap.size _ _ ((rd_T33 t457 x71_3).f1) from Kd.V_mk ul492_1 ge492_1)
                              clear hva_ hvn_ hvc_ ge492_1 ul492_1
                              clear hcc492 hce492
                              have HR492_0 := Aside0.mk hi492_0
                              have HC492_0 := Aside0.mk hl492_0
                              clear hi492_0 hl492_0
                              have HR492_1 := Aside0.mk hi492_1
                              have HC492_1 := Aside0.mk hl492_1
                              clear hi492_1 hl492_1
                              replace p492 := eq_true p492
                              replace q492 := eq_true q492
                              go_wp2_with (first | ((with_reducible refine gate_dst (N := 13) rfl ?_); (try (refine gate_guard (by rfl) ?_; dsimp only)); refine bx_ 13 #[.slice none 0 0, .slice none 0 0] 33 ?_; intro gb493 hg w104 hbox hb; replace HO_4 := Aside0.mk (Kd.N_below (Kd.N_elderB (by (with_reducible repeat (first | apply Kd.N_alloc | apply Kd.N_drewN | apply Kd.N_drew)); exact HO_4.out) gb493 (Nat.le_of_eq hg.symm)) hb); replace HO_69 := Aside0.mk (Kd.N_below (Kd.N_elderB (by (with_reducible repeat (first | apply Kd.N_alloc | apply Kd.N_drewN | apply Kd.N_drew)); exact HO_69.out) gb493 (Nat.le_of_eq hg.symm)) hb); replace HO_483000 := rb_ HO_483000 hb; replace HO_483001 := rb_ HO_483001 hb; replace HO_491000 := rb_ HO_491000 hb; replace HO_491001 := rb_ HO_491001 hb; replace HL492_0 := Aside0.mk (Kd.V_below (Kd.V_elderB (by (with_reducible repeat (first | apply Kd.V_alloc | apply Kd.V_drewN | apply Kd.V_drew)); exact HL492_0.out) gb493 (Nat.le_of_eq hg.symm)) hb); replace HL492_1 := Aside0.mk (Kd.V_below (Kd.V_elderB (by (with_reducible repeat (first | apply Kd.V_alloc | apply Kd.V_drewN | apply Kd.V_drew)); exact HL492_1.out) gb493 (Nat.le_of_eq hg.symm)) hb); replace HR492_0 := Aside0.mk (Kd.C_below (by repeat (first | (with_reducible exact HR492_0.out) | (with_reducible refine Kd.C_alloc ?_ _) | (with_reducible refine Kd.C_drewN ?_ _) | (with_reducible refine Kd.C_drew ?_) | exact HR492_0.out)) hb); replace HR492_1 := Aside0.mk (Kd.C_below (by repeat (first | (with_reducible exact HR492_1.out) | (with_reducible refine Kd.C_alloc ?_ _) | (with_reducible refine Kd.C_drewN ?_ _) | (with_reducible refine Kd.C_drew ?_) | exact HR492_1.out)) hb); have BK493 := Aside0.mk hbox; have GW493 := gw_ w hg; have GE493 := GW493; replace HB := b1_ hb; have NB482_493 := gN_ BK482 hg; have NB493_482 := gP_ BK482 hg; replace BK482 := bb_ BK482 hb; have NB490_493 := gN_ BK490 hg; have NB493_490 := gP_ BK490 hg; replace BK490 := bb_ BK490 hb; clear hb hbox hg; have hnb105 := NB493_482.out; have hnc105 := NB482_493.out; have hnb106 := NB493_490.out; have hnc106 := NB490_493.out; obtain ⟨hcz107_0, hcz107_1, hfz107_0, hfz107_1⟩ := c2_ BK493) | ((with_reducible refine gate_callee (f := 17) rfl ?_); refine gL_ (some 77) Try.func17 #[.agg #[.slice A492_0 ((rd_T33 t457 x71_3).f0).length c492_0, .slice A492_1 ((rd_T33 t457 x71_3).f1).length c492_1]] rfl qa_ ?_; (with_reducible refine (impl_CanonOf.calls k3 _ _ ((rd_T33 t457 x71_3).f0) _ _ ((rd_T33 t457 x71_3).f1) t494 t497 true _ ?side1 ?side2 ?side3 ?side4 A65.out).mono ?_); (case side1 => repeat (first | exact ((Kd.V_reads' (by (with_reducible repeat (first | apply Kd.V_alloc | apply Kd.V_drewN | apply Kd.V_drew)); exact (Kd.V_mono (Kd.V_far (p := ⟨gb493, 1, none⟩) (Kd.V_far (p := ⟨gb493, 0, none⟩) (Kd.V_mono HL492_0.out (fun k_ hk => (⟨hk, hk.2⟩ : _ ∧ k_ ≠ gb493))) (fun _ hk => hk.2) (.slice A492_0 ((rd_T33 t457 x71_3).f0).length c492_0)) (fun _ hk => hk.2) (.slice A492_1 ((rd_T33 t457 x71_3).f1).length c492_1)) (fun _ h_ => h_.1)))).2.2) | (with_reducible refine Kd.C_alloc ?_ _) | (with_reducible refine Kd.C_drewN ?_ _) | (with_reducible refine Kd.C_drew ?_))); (case side2 => exact HC492_0.out); (case side3 => repeat (first | exact ((Kd.V_reads' (by (with_reducible repeat (first | apply Kd.V_alloc | apply Kd.V_drewN | apply Kd.V_drew)); exact (Kd.V_mono (Kd.V_far (p := ⟨gb493, 1, none⟩) (Kd.V_far (p := ⟨gb493, 0, none⟩) (Kd.V_mono HL492_1.out (fun k_ hk => (⟨hk, hk.2⟩ : _ ∧ k_ ≠ gb493))) (fun _ hk => hk.2) (.slice A492_0 ((rd_T33 t457 x71_3).f0).length c492_0)) (fun _ hk => hk.2) (.slice A492_1 ((rd_T33 t457 x71_3).f1).length c492_1)) (fun _ h_ => h_.1)))).2.2) | (with_reducible refine Kd.C_alloc ?_ _) | (with_reducible refine Kd.C_drewN ?_ _) | (with_reducible refine Kd.C_drew ?_))); (case side4 => exact HC492_1.out); rintro e w108 ⟨v495, v498, rfl, ho0, ho1, hb⟩; refine ⟨_, rfl, ?_⟩; replace HO_4 := Aside0.mk (Kd.N_mono (Kd.N_told (Kd.N_told (Kd.N_old (by (with_reducible repeat (first | apply Kd.N_alloc | apply Kd.N_drewN | apply Kd.N_drew)); exact (Kd.N_mono (Kd.N_far (p := ⟨gb493, 1, none⟩) (Kd.N_far (p := ⟨gb493, 0, none⟩) (Kd.N_mono HO_4.out (fun k_ hk => (⟨hk, hk.2⟩ : _ ∧ k_ ≠ gb493))) (fun _ hk => hk.2) (.slice A492_0 ((rd_T33 t457 x71_3).f0).length c492_0)) (fun _ hk => hk.2) (.slice A492_1 ((rd_T33 t457 x71_3).f1).length c492_1)) (fun _ h_ => h_.1))) hb) (Kd.R_base ho0)) (Kd.R_base ho1)) (fun _ h_ => h_.1)); replace HO_69 := Aside0.mk (Kd.N_mono (Kd.N_told (Kd.N_told (Kd.N_old (by (with_reducible repeat (first | apply Kd.N_alloc | apply Kd.N_drewN | apply Kd.N_drew)); exact (Kd.N_mono (Kd.N_far (p := ⟨gb493, 1, none⟩) (Kd.N_far (p := ⟨gb493, 0, none⟩) (Kd.N_mono HO_69.out (fun k_ hk => (⟨hk, hk.2⟩ : _ ∧ k_ ≠ gb493))) (fun _ hk => hk.2) (.slice A492_0 ((rd_T33 t457 x71_3).f0).length c492_0)) (fun _ hk => hk.2) (.slice A492_1 ((rd_T33 t457 x71_3).f1).length c492_1)) (fun _ h_ => h_.1))) hb) (Kd.R_base ho0)) (Kd.R_base ho1)) (fun _ h_ => h_.1)); have HO496 := Aside0.mk (Kd.R_lower (Kd.R_new' (Kd.R_new' (Kd.R_new' (Kd.R_new' ho0 (Kd.R_lt (rw_ (Kd.R_mono (Kd.R_far (p := ⟨gb493, 1, none⟩) (Kd.R_far (p := ⟨gb493, 0, none⟩) (Kd.R_types HO_483000.out BK493.out (by decide)) (fun _ hk => hk.2) (.slice A492_0 ((rd_T33 t457 x71_3).f0).length c492_0)) (fun _ hk => hk.2) (.slice A492_1 ((rd_T33 t457 x71_3).f1).length c492_1)) (fun _ h_ => h_.1))))) (Kd.R_lt (rw_ (Kd.R_mono (Kd.R_far (p := ⟨gb493, 1, none⟩) (Kd.R_far (p := ⟨gb493, 0, none⟩) (Kd.R_types HO_483001.out BK493.out (by decide)) (fun _ hk => hk.2) (.slice A492_0 ((rd_T33 t457 x71_3).f0).length c492_0)) (fun _ hk => hk.2) (.slice A492_1 ((rd_T33 t457 x71_3).f1).length c492_1)) (fun _ h_ => h_.1))))) (Kd.R_lt (rw_ (Kd.R_mono (Kd.R_far (p := ⟨gb493, 1, none⟩) (Kd.R_far (p := ⟨gb493, 0, none⟩) (Kd.R_types HO_491000.out BK493.out (by decide)) (fun _ hk => hk.2) (.slice A492_0 ((rd_T33 t457 x71_3).f0).length c492_0)) (fun _ hk => hk.2) (.slice A492_1 ((rd_T33 t457 x71_3).f1).length c492_1)) (fun _ h_ => h_.1))))) (Kd.R_lt (rw_ (Kd.R_mono (Kd.R_far (p := ⟨gb493, 1, none⟩) (Kd.R_far (p := ⟨gb493, 0, none⟩) (Kd.R_types HO_491001.out BK493.out (by decide)) (fun _ hk => hk.2) (.slice A492_0 ((rd_T33 t457 x71_3).f0).length c492_0)) (fun _ hk => hk.2) (.slice A492_1 ((rd_T33 t457 x71_3).f1).length c492_1)) (fun _ h_ => h_.1))))) (below_size hB_)); have HO499 := Aside0.mk (Kd.R_lower (Kd.R_new' (Kd.R_new' (Kd.R_new' (Kd.R_new' ho1 (Kd.R_lt (rw_ (Kd.R_mono (Kd.R_far (p := ⟨gb493, 1, none⟩) (Kd.R_far (p := ⟨gb493, 0, none⟩) (Kd.R_types HO_483000.out BK493.out (by decide)) (fun _ hk => hk.2) (.slice A492_0 ((rd_T33 t457 x71_3).f0).length c492_0)) (fun _ hk => hk.2) (.slice A492_1 ((rd_T33 t457 x71_3).f1).length c492_1)) (fun _ h_ => h_.1))))) (Kd.R_lt (rw_ (Kd.R_mono (Kd.R_far (p := ⟨gb493, 1, none⟩) (Kd.R_far (p := ⟨gb493, 0, none⟩) (Kd.R_types HO_483001.out BK493.out (by decide)) (fun _ hk => hk.2) (.slice A492_0 ((rd_T33 t457 x71_3).f0).length c492_0)) (fun _ hk => hk.2) (.slice A492_1 ((rd_T33 t457 x71_3).f1).length c492_1)) (fun _ h_ => h_.1))))) (Kd.R_lt (rw_ (Kd.R_mono (Kd.R_far (p := ⟨gb493, 1, none⟩) (Kd.R_far (p := ⟨gb493, 0, none⟩) (Kd.R_types HO_491000.out BK493.out (by decide)) (fun _ hk => hk.2) (.slice A492_0 ((rd_T33 t457 x71_3).f0).length c492_0)) (fun _ hk => hk.2) (.slice A492_1 ((rd_T33 t457 x71_3).f1).length c492_1)) (fun _ h_ => h_.1))))) (Kd.R_lt (rw_ (Kd.R_mono (Kd.R_far (p := ⟨gb493, 1, none⟩) (Kd.R_far (p := ⟨gb493, 0, none⟩) (Kd.R_types HO_491001.out BK493.out (by decide)) (fun _ hk => hk.2) (.slice A492_0 ((rd_T33 t457 x71_3).f0).length c492_0)) (fun _ hk => hk.2) (.slice A492_1 ((rd_T33 t457 x71_3).f1).length c492_1)) (fun _ h_ => h_.1))))) (below_size hB_)); replace HO_483000 := Aside0.mk (Kd.R_mono (Kd.R_told (Kd.R_told (Kd.R_old (rw_ (Kd.R_mono (Kd.R_far (p := ⟨gb493, 1, none⟩) (Kd.R_far (p := ⟨gb493, 0, none⟩) (Kd.R_types HO_483000.out BK493.out (by decide)) (fun _ hk => hk.2) (.slice A492_0 ((rd_T33 t457 x71_3).f0).length c492_0)) (fun _ hk => hk.2) (.slice A492_1 ((rd_T33 t457 x71_3).f1).length c492_1)) (fun _ h_ => h_.1))) hb) (Kd.R_base ho0)) (Kd.R_base ho1)) (fun _ h_ => h_.1)); replace HO_483001 := Aside0.mk (Kd.R_mono (Kd.R_told (Kd.R_told (Kd.R_old (rw_ (Kd.R_mono (Kd.R_far (p := ⟨gb493, 1, none⟩) (Kd.R_far (p := ⟨gb493, 0, none⟩) (Kd.R_types HO_483001.out BK493.out (by decide)) (fun _ hk => hk.2) (.slice A492_0 ((rd_T33 t457 x71_3).f0).length c492_0)) (fun _ hk => hk.2) (.slice A492_1 ((rd_T33 t457 x71_3).f1).length c492_1)) (fun _ h_ => h_.1))) hb) (Kd.R_base ho0)) (Kd.R_base ho1)) (fun _ h_ => h_.1)); replace HO_491000 := Aside0.mk (Kd.R_mono (Kd.R_told (Kd.R_told (Kd.R_old (rw_ (Kd.R_mono (Kd.R_far (p := ⟨gb493, 1, none⟩) (Kd.R_far (p := ⟨gb493, 0, none⟩) (Kd.R_types HO_491000.out BK493.out (by decide)) (fun _ hk => hk.2) (.slice A492_0 ((rd_T33 t457 x71_3).f0).length c492_0)) (fun _ hk => hk.2) (.slice A492_1 ((rd_T33 t457 x71_3).f1).length c492_1)) (fun _ h_ => h_.1))) hb) (Kd.R_base ho0)) (Kd.R_base ho1)) (fun _ h_ => h_.1)); replace HO_491001 := Aside0.mk (Kd.R_mono (Kd.R_told (Kd.R_told (Kd.R_old (rw_ (Kd.R_mono (Kd.R_far (p := ⟨gb493, 1, none⟩) (Kd.R_far (p := ⟨gb493, 0, none⟩) (Kd.R_types HO_491001.out BK493.out (by decide)) (fun _ hk => hk.2) (.slice A492_0 ((rd_T33 t457 x71_3).f0).length c492_0)) (fun _ hk => hk.2) (.slice A492_1 ((rd_T33 t457 x71_3).f1).length c492_1)) (fun _ h_ => h_.1))) hb) (Kd.R_base ho0)) (Kd.R_base ho1)) (fun _ h_ => h_.1)); replace BK482 := Aside0.mk (blk_below (g := gb482) (o := .cells #[.slice Ao52 t476.length co52, .slice Ao51 t479.length co51] 33 (0, 0)) (by (with_reducible repeat (first | refine blk_drewN ?_ _ | refine blk_drew ?_ | refine blk_alloc ?_ _)); refine blk_far ?_ NB482_493.out _; (with_reducible repeat (first | refine blk_drewN ?_ _ | refine blk_drew ?_ | refine blk_alloc ?_ _)); refine blk_far ?_ NB482_493.out _; (with_reducible repeat (first | refine blk_drewN ?_ _ | refine blk_drew ?_ | refine blk_alloc ?_ _)); exact BK482.out) hb); replace BK490 := Aside0.mk (blk_below (g := gb490) (o := .cells #[.slice Ao57 t483.length co57, .slice Ao60 t486.length co60] 33 (0, 0)) (by (with_reducible repeat (first | refine blk_drewN ?_ _ | refine blk_drew ?_ | refine blk_alloc ?_ _)); refine blk_far ?_ NB490_493.out _; (with_reducible repeat (first | refine blk_drewN ?_ _ | refine blk_drew ?_ | refine blk_alloc ?_ _)); refine blk_far ?_ NB490_493.out _; (with_reducible repeat (first | refine blk_drewN ?_ _ | refine blk_drew ?_ | refine blk_alloc ?_ _)); exact BK490.out) hb); replace HR492_0 := Aside0.mk (Kd.C_below ((Kd.V_reads' (by (with_reducible repeat (first | apply Kd.V_alloc | apply Kd.V_drewN | apply Kd.V_drew)); exact (Kd.V_mono (Kd.V_far (p := ⟨gb493, 1, none⟩) (Kd.V_far (p := ⟨gb493, 0, none⟩) (Kd.V_mono HL492_0.out (fun k_ hk => (⟨hk, hk.2⟩ : _ ∧ k_ ≠ gb493))) (fun _ hk => hk.2) (.slice A492_0 ((rd_T33 t457 x71_3).f0).length c492_0)) (fun _ hk => hk.2) (.slice A492_1 ((rd_T33 t457 x71_3).f1).length c492_1)) (fun _ h_ => h_.1)))).2.2) hb); replace HL492_0 := Aside0.mk (Kd.V_mono (Kd.V_told (Kd.V_told (Kd.V_old (by (with_reducible repeat (first | apply Kd.V_alloc | apply Kd.V_drewN | apply Kd.V_drew)); exact (Kd.V_mono (Kd.V_far (p := ⟨gb493, 1, none⟩) (Kd.V_far (p := ⟨gb493, 0, none⟩) (Kd.V_mono HL492_0.out (fun k_ hk => (⟨hk, hk.2⟩ : _ ∧ k_ ≠ gb493))) (fun _ hk => hk.2) (.slice A492_0 ((rd_T33 t457 x71_3).f0).length c492_0)) (fun _ hk => hk.2) (.slice A492_1 ((rd_T33 t457 x71_3).f1).length c492_1)) (fun _ h_ => h_.1))) hb) (Kd.R_base ho0)) (Kd.R_base ho1)) (fun _ h_ => h_.1)); replace HR492_1 := Aside0.mk (Kd.C_below ((Kd.V_reads' (by (with_reducible repeat (first | apply Kd.V_alloc | apply Kd.V_drewN | apply Kd.V_drew)); exact (Kd.V_mono (Kd.V_far (p := ⟨gb493, 1, none⟩) (Kd.V_far (p := ⟨gb493, 0, none⟩) (Kd.V_mono HL492_1.out (fun k_ hk => (⟨hk, hk.2⟩ : _ ∧ k_ ≠ gb493))) (fun _ hk => hk.2) (.slice A492_0 ((rd_T33 t457 x71_3).f0).length c492_0)) (fun _ hk => hk.2) (.slice A492_1 ((rd_T33 t457 x71_3).f1).length c492_1)) (fun _ h_ => h_.1)))).2.2) hb); replace HL492_1 := Aside0.mk (Kd.V_mono (Kd.V_told (Kd.V_told (Kd.V_old (by (with_reducible repeat (first | apply Kd.V_alloc | apply Kd.V_drewN | apply Kd.V_drew)); exact (Kd.V_mono (Kd.V_far (p := ⟨gb493, 1, none⟩) (Kd.V_far (p := ⟨gb493, 0, none⟩) (Kd.V_mono HL492_1.out (fun k_ hk => (⟨hk, hk.2⟩ : _ ∧ k_ ≠ gb493))) (fun _ hk => hk.2) (.slice A492_0 ((rd_T33 t457 x71_3).f0).length c492_0)) (fun _ hk => hk.2) (.slice A492_1 ((rd_T33 t457 x71_3).f1).length c492_1)) (fun _ h_ => h_.1))) hb) (Kd.R_base ho0)) (Kd.R_base ho1)) (fun _ h_ => h_.1)); replace BK493 := Aside0.mk (blk_below (g := gb493) (o := .cells #[.slice A492_0 ((rd_T33 t457 x71_3).f0).length c492_0, .slice A492_1 ((rd_T33 t457 x71_3).f1).length c492_1] 33 (0, 0)) qp_ hb); replace HB := b1_ hb; clear hb ho0 ho1) | ((with_reducible refine gate_dst (N := 14) rfl ?_); (try (refine gate_guard (by rfl) ?_; dsimp only)); refine bx_ 14 #[.slice none 0 0, .slice none 0 0] 33 ?_; intro gb501 hg w109 hbox hb; replace HO_4 := Aside0.mk (Kd.N_below (Kd.N_elderB (by (with_reducible repeat (first | apply Kd.N_alloc | apply Kd.N_drewN | apply Kd.N_drew)); exact HO_4.out) gb501 (Nat.le_of_eq hg.symm)) hb); replace HO_69 := Aside0.mk (Kd.N_below (Kd.N_elderB (by (with_reducible repeat (first | apply Kd.N_alloc | apply Kd.N_drewN | apply Kd.N_drew)); exact HO_69.out) gb501 (Nat.le_of_eq hg.symm)) hb); replace HO_483000 := rb_ HO_483000 hb; replace HO_483001 := rb_ HO_483001 hb; replace HO_491000 := rb_ HO_491000 hb; replace HO_491001 := rb_ HO_491001 hb; replace HL492_0 := Aside0.mk (Kd.V_below (Kd.V_elderB (by (with_reducible repeat (first | apply Kd.V_alloc | apply Kd.V_drewN | apply Kd.V_drew)); exact HL492_0.out) gb501 (Nat.le_of_eq hg.symm)) hb); replace HL492_1 := Aside0.mk (Kd.V_below (Kd.V_elderB (by (with_reducible repeat (first | apply Kd.V_alloc | apply Kd.V_drewN | apply Kd.V_drew)); exact HL492_1.out) gb501 (Nat.le_of_eq hg.symm)) hb); replace HO496 := rb_ HO496 hb; replace HO499 := rb_ HO499 hb; replace HR492_0 := Aside0.mk (Kd.C_below (by repeat (first | (with_reducible exact HR492_0.out) | (with_reducible refine Kd.C_alloc ?_ _) | (with_reducible refine Kd.C_drewN ?_ _) | (with_reducible refine Kd.C_drew ?_) | exact HR492_0.out)) hb); replace HR492_1 := Aside0.mk (Kd.C_below (by repeat (first | (with_reducible exact HR492_1.out) | (with_reducible refine Kd.C_alloc ?_ _) | (with_reducible refine Kd.C_drewN ?_ _) | (with_reducible refine Kd.C_drew ?_) | exact HR492_1.out)) hb); have BK501 := Aside0.mk hbox; have GW501 := gw_ w hg; have GE501 := GW501; replace HB := b1_ hb; have NB482_501 := gN_ BK482 hg; have NB501_482 := gP_ BK482 hg; replace BK482 := bb_ BK482 hb; have NB490_501 := gN_ BK490 hg; have NB501_490 := gP_ BK490 hg; replace BK490 := bb_ BK490 hb; have NB493_501 := gN_ BK493 hg; have NB501_493 := gP_ BK493 hg; replace BK493 := bb_ BK493 hb; clear hb hbox hg; obtain ⟨Ao110, co110, eo110⟩ := Kd.R_slice HO496.out; subst eo110; have hnb111 := NB501_482.out; have hnc111 := NB482_501.out; have hnb112 := NB501_490.out; have hnc112 := NB490_501.out; have hnb113 := NB501_493.out; have hnc113 := NB493_501.out; obtain ⟨hcz114_0, hcz114_1, hfz114_0, hfz114_1⟩ := c2_ BK501; obtain ⟨Ao115, co115, eo115⟩ := Kd.R_slice HO499.out; subst eo115; have hcz116_0 : w109.cell? ⟨gb493, 0, none⟩ = some (.slice A492_0 ((rd_T33 t457 x71_3).f0).length c492_0) := cz0_ BK493; have hcz116_1 : w109.cell? ⟨gb493, 1, none⟩ = some (.slice A492_1 ((rd_T33 t457 x71_3).f1).length c492_1) := cz1_ BK493; have hfz116_0 := blk_frozen BK493.out 0; have hfz116_1 := blk_frozen BK493.out 1) | (go_at_call 18; (with_reducible refine (impl_SameSurface.calls k3 _ _ ((rd_T33 t457 x71_3).f0) _ _ ((rd_T33 t457 x71_3).f1) _ _ t494 _ _ t497 true _ ?side1 ?side2 ?side3 ?side4 ?side5 ?side6 ?side7 ?side8 A67.out).mono ?_); (case side1 => repeat (first | exact ((Kd.V_reads' (by (with_reducible repeat (first | apply Kd.V_alloc | apply Kd.V_drewN | apply Kd.V_drew)); exact (Kd.V_mono (Kd.V_far (p := ⟨gb501, 1, none⟩) (Kd.V_far (p := ⟨gb501, 0, none⟩) (Kd.V_mono HL492_0.out (fun k_ hk => (⟨hk, hk.2⟩ : _ ∧ k_ ≠ gb501))) (fun _ hk => hk.2) (.slice Ao110 t494.length co110)) (fun _ hk => hk.2) (.slice Ao115 t497.length co115)) (fun _ h_ => h_.1)))).2.2) | (with_reducible refine Kd.C_alloc ?_ _) | (with_reducible refine Kd.C_drewN ?_ _) | (with_reducible refine Kd.C_drew ?_))); (case side2 => exact HC492_0.out); (case side3 => repeat (first | exact ((Kd.V_reads' (by (with_reducible repeat (first | apply Kd.V_alloc | apply Kd.V_drewN | apply Kd.V_drew)); exact (Kd.V_mono (Kd.V_far (p := ⟨gb501, 1, none⟩) (Kd.V_far (p := ⟨gb501, 0, none⟩) (Kd.V_mono HL492_1.out (fun k_ hk => (⟨hk, hk.2⟩ : _ ∧ k_ ≠ gb501))) (fun _ hk => hk.2) (.slice Ao110 t494.length co110)) (fun _ hk => hk.2) (.slice Ao115 t497.length co115)) (fun _ h_ => h_.1)))).2.2) | (with_reducible refine Kd.C_alloc ?_ _) | (with_reducible refine Kd.C_drewN ?_ _) | (with_reducible refine Kd.C_drew ?_))); (case side4 => exact HC492_1.out); (case side5 => refine (Kd.R_reads' (e := 3) (base := w.heap.size) (ok := fun k_ => ((((some k_ ≠ (.slice Ao115 t497.length co115 : Value).ownBlock ∧ some k_ ≠ (.slice Ao52 t476.length co52 : Value).ownBlock) ∧ some k_ ≠ (.slice Ao51 t479.length co51 : Value).ownBlock) ∧ some k_ ≠ (.slice Ao57 t483.length co57 : Value).ownBlock) ∧ some k_ ≠ (.slice Ao60 t486.length co60 : Value).ownBlock)) (n := t494.length) (c := co110) ?_).2.2; exact (rw_ (fa_ HO496 BK501))); (case side6 => exact (Kd.R_reads' HO496.out).2.1); (case side7 => refine (Kd.R_reads' (e := 3) (base := w.heap.size) (ok := fun k_ => ((((some k_ ≠ (.slice Ao110 t494.length co110 : Value).ownBlock ∧ some k_ ≠ (.slice Ao52 t476.length co52 : Value).ownBlock) ∧ some k_ ≠ (.slice Ao51 t479.length co51 : Value).ownBlock) ∧ some k_ ≠ (.slice Ao57 t483.length co57 : Value).ownBlock) ∧ some k_ ≠ (.slice Ao60 t486.length co60 : Value).ownBlock)) (n := t497.length) (c := co115) ?_).2.2; exact (rw_ (fa_ HO499 BK501))); (case side8 => exact (Kd.R_reads' HO499.out).2.1); rintro e w117 ⟨rfl, hb⟩; replace HO_4 := Aside0.mk (Kd.N_below (by (with_reducible repeat (first | apply Kd.N_alloc | apply Kd.N_drewN | apply Kd.N_drew)); exact (Kd.N_mono (Kd.N_far (p := ⟨gb501, 1, none⟩) (Kd.N_far (p := ⟨gb501, 0, none⟩) (Kd.N_mono HO_4.out (fun k_ hk => (⟨hk, hk.2⟩ : _ ∧ k_ ≠ gb501))) (fun _ hk => hk.2) (.slice Ao110 t494.length co110)) (fun _ hk => hk.2) (.slice Ao115 t497.length co115)) (fun _ h_ => h_.1))) hb); replace HO_69 := Aside0.mk (Kd.N_below (by (with_reducible repeat (first | apply Kd.N_alloc | apply Kd.N_drewN | apply Kd.N_drew)); exact (Kd.N_mono (Kd.N_far (p := ⟨gb501, 1, none⟩) (Kd.N_far (p := ⟨gb501, 0, none⟩) (Kd.N_mono HO_69.out (fun k_ hk => (⟨hk, hk.2⟩ : _ ∧ k_ ≠ gb501))) (fun _ hk => hk.2) (.slice Ao110 t494.length co110)) (fun _ hk => hk.2) (.slice Ao115 t497.length co115)) (fun _ h_ => h_.1))) hb); replace HO_483000 := Aside0.mk (Kd.R_below (rw_ (fa_ HO_483000 BK501)) hb); replace HO_483001 := Aside0.mk (Kd.R_below (rw_ (fa_ HO_483001 BK501)) hb); replace HO_491000 := Aside0.mk (Kd.R_below (rw_ (fa_ HO_491000 BK501)) hb); replace HO_491001 := Aside0.mk (Kd.R_below (rw_ (fa_ HO_491001 BK501)) hb); replace HO496 := Aside0.mk (Kd.R_below (rw_ (fa_ HO496 BK501)) hb); replace HO499 := Aside0.mk (Kd.R_below (rw_ (fa_ HO499 BK501)) hb); replace BK482 := Aside0.mk (blk_below (g := gb482) (o := .cells #[.slice Ao52 t476.length co52, .slice Ao51 t479.length co51] 33 (0, 0)) (by (with_reducible repeat (first | refine blk_drewN ?_ _ | refine blk_drew ?_ | refine blk_alloc ?_ _)); refine blk_far ?_ NB482_501.out _; (with_reducible repeat (first | refine blk_drewN ?_ _ | refine blk_drew ?_ | refine blk_alloc ?_ _)); refine blk_far ?_ NB482_501.out _; (with_reducible repeat (first | refine blk_drewN ?_ _ | refine blk_drew ?_ | refine blk_alloc ?_ _)); exact BK482.out) hb); replace BK490 := Aside0.mk (blk_below (g := gb490) (o := .cells #[.slice Ao57 t483.length co57, .slice Ao60 t486.length co60] 33 (0, 0)) (by (with_reducible repeat (first | refine blk_drewN ?_ _ | refine blk_drew ?_ | refine blk_alloc ?_ _)); refine blk_far ?_ NB490_501.out _; (with_reducible repeat (first | refine blk_drewN ?_ _ | refine blk_drew ?_ | refine blk_alloc ?_ _)); refine blk_far ?_ NB490_501.out _; (with_reducible repeat (first | refine blk_drewN ?_ _ | refine blk_drew ?_ | refine blk_alloc ?_ _)); exact BK490.out) hb); replace HR492_0 := Aside0.mk (Kd.C_below ((Kd.V_reads' (by (with_reducible repeat (first | apply Kd.V_alloc | apply Kd.V_drewN | apply Kd.V_drew)); exact (Kd.V_mono (Kd.V_far (p := ⟨gb501, 1, none⟩) (Kd.V_far (p := ⟨gb501, 0, none⟩) (Kd.V_mono HL492_0.out (fun k_ hk => (⟨hk, hk.2⟩ : _ ∧ k_ ≠ gb501))) (fun _ hk => hk.2) (.slice Ao110 t494.length co110)) (fun _ hk => hk.2) (.slice Ao115 t497.length co115)) (fun _ h_ => h_.1)))).2.2) hb); replace HL492_0 := Aside0.mk (Kd.V_below (by (with_reducible repeat (first | apply Kd.V_alloc | apply Kd.V_drewN | apply Kd.V_drew)); exact (Kd.V_mono (Kd.V_far (p := ⟨gb501, 1, none⟩) (Kd.V_far (p := ⟨gb501, 0, none⟩) (Kd.V_mono HL492_0.out (fun k_ hk => (⟨hk, hk.2⟩ : _ ∧ k_ ≠ gb501))) (fun _ hk => hk.2) (.slice Ao110 t494.length co110)) (fun _ hk => hk.2) (.slice Ao115 t497.length co115)) (fun _ h_ => h_.1))) hb); replace HR492_1 := Aside0.mk (Kd.C_below ((Kd.V_reads' (by (with_reducible repeat (first | apply Kd.V_alloc | apply Kd.V_drewN | apply Kd.V_drew)); exact (Kd.V_mono (Kd.V_far (p := ⟨gb501, 1, none⟩) (Kd.V_far (p := ⟨gb501, 0, none⟩) (Kd.V_mono HL492_1.out (fun k_ hk => (⟨hk, hk.2⟩ : _ ∧ k_ ≠ gb501))) (fun _ hk => hk.2) (.slice Ao110 t494.length co110)) (fun _ hk => hk.2) (.slice Ao115 t497.length co115)) (fun _ h_ => h_.1)))).2.2) hb); replace HL492_1 := Aside0.mk (Kd.V_below (by (with_reducible repeat (first | apply Kd.V_alloc | apply Kd.V_drewN | apply Kd.V_drew)); exact (Kd.V_mono (Kd.V_far (p := ⟨gb501, 1, none⟩) (Kd.V_far (p := ⟨gb501, 0, none⟩) (Kd.V_mono HL492_1.out (fun k_ hk => (⟨hk, hk.2⟩ : _ ∧ k_ ≠ gb501))) (fun _ hk => hk.2) (.slice Ao110 t494.length co110)) (fun _ hk => hk.2) (.slice Ao115 t497.length co115)) (fun _ h_ => h_.1))) hb); replace BK493 := Aside0.mk (blk_below (g := gb493) (o := .cells #[.slice A492_0 ((rd_T33 t457 x71_3).f0).length c492_0, .slice A492_1 ((rd_T33 t457 x71_3).f1).length c492_1] 33 (0, 0)) (by (with_reducible repeat (first | refine blk_drewN ?_ _ | refine blk_drew ?_ | refine blk_alloc ?_ _)); refine blk_far ?_ NB493_501.out _; (with_reducible repeat (first | refine blk_drewN ?_ _ | refine blk_drew ?_ | refine blk_alloc ?_ _)); refine blk_far ?_ NB493_501.out _; (with_reducible repeat (first | refine blk_drewN ?_ _ | refine blk_drew ?_ | refine blk_alloc ?_ _)); exact BK493.out) hb); replace BK501 := Aside0.mk (blk_below (g := gb501) (o := .cells #[.slice Ao110 t494.length co110, .slice Ao115 t497.length co115] 33 (0, 0)) qp_ hb); replace HB := b1_ hb; clear hb))
                              go_roundg k3
                              case measure => have := HJ7.out; have := HK2.out; have := HK3.out; omega
                              case rel => exact ⟨(false), (wrap64 (x71_3 + 1)), qc_, qc_, H', ⟨by have := HJ7.out; have := HK2.out; have := HK3.out; omega⟩, ⟨by (with_reducible repeat (first | apply Kd.N_alloc | apply Kd.N_drewN | apply Kd.N_drew)); exact Kd.N_mono HO_4.out (fun _ hk => ⟨hk.1.1.1.1.1, ⟨hk.1.1.1.1.2.1, ⟨hk.1.1.1.1.2.2.1, ⟨hk.1.1.1.1.2.2.2.1, ⟨hk.1.1.1.1.2.2.2.2.1, hk.1.1.1.1.2.2.2.2.2⟩⟩⟩⟩⟩)⟩, ⟨by (with_reducible repeat (first | apply Kd.N_alloc | apply Kd.N_drewN | apply Kd.N_drew)); exact Kd.N_mono HO_69.out (fun _ hk => ⟨hk.1.1.1.1.1, ⟨hk.1.1.1.1.2.1, ⟨hk.1.1.1.1.2.2.1, ⟨hk.1.1.1.1.2.2.2.1, ⟨hk.1.1.1.1.2.2.2.2.1, hk.1.1.1.1.2.2.2.2.2⟩⟩⟩⟩⟩)⟩, ⟨(rw_ (Kd.R_mono HO_483000.out (fun _ hk => ⟨hk.1.1.1, ⟨hk.1.1.2.1, hk.1.1.2.2⟩⟩)))⟩, ⟨(rw_ (Kd.R_mono HO_483001.out (fun _ hk => ⟨hk.1.1.1, ⟨hk.1.1.2.1, hk.1.1.2.2⟩⟩)))⟩, ⟨(rw_ (Kd.R_mono HO_491000.out (fun _ hk => ⟨hk.1.1.1, ⟨hk.1.1.2.1, hk.1.1.2.2⟩⟩)))⟩, ⟨(rw_ (Kd.R_mono HO_491001.out (fun _ hk => ⟨hk.1.1.1, ⟨hk.1.1.2.1, hk.1.1.2.2⟩⟩)))⟩, ⟨(kk_ BK482)⟩, ⟨(kk_ BK490)⟩, ⟨hB_⟩⟩
                        · replace c68 := Bool.eq_false_iff.mpr c68
                          subst c68
                          have H1 : (some false) = some r := by rw [if_neg (show ¬ (false = true) by decide)] at H; exact H
                          clear H
                          have H := H1
                          clear H1
                          exact absurd (Option.some.inj H) (by rw [hr1_.out]; decide)
                      · replace c66 := Bool.eq_false_iff.mpr c66
                        subst c66
                        have H1 : (some false) = some r := by rw [if_neg (show ¬ (false = true) by decide)] at H; exact H
                        clear H
                        have H := H1
                        clear H1
                        exact absurd (Option.some.inj H) (by rw [hr1_.out]; decide)
                    · rw [if_neg c62] at H
                      have c62b0 := decide_eq_false c62
                      clear c62
                      by_cases c118 : x5_2 = (t457.length : Int)
                      · rw [if_pos c118] at H
                        have c118b0 : (x5_2 == (t457.length : Int)) = true := beq_iff_eq.mpr c118
                        have c118b1 : (x5_2 != (t457.length : Int)) = false := bne_eq_false_iff_eq.mpr c118
                        clear c118
                        by_cases c119 : (x11_3 == t489) = true
                        · rw [if_pos c119] at H
                          have c119b0 : (x11_3 == t489) = true := c119
                          (try (have c119b1 : decide (x11_3 = t489) = true := by simpa using c119))
                          (try (have c119b2 : (x11_3 == t489) = true := by simpa using c119))
                          clear c119
                          obtain ⟨t491, A120, H⟩ := bi_ H
                          obtain rfl := Option.some.inj H
                          have hnb121 := NB482_490.out
                          have hnc121 := NB490_482.out
                          obtain ⟨hcz122_0, hcz122_1, hfz122_0, hfz122_1⟩ := c2_ BK482
                          go_wp2_with (first | (go_at_call 19; (with_reducible refine (impl_SurfaceOk.calls k3 _ _ t476 _ _ t479 t491 _ (cr_ HO_483000) ((Kd.R_reads' HO_483000.out).2.1) (cr_ HO_483001) ((Kd.R_reads' HO_483001.out).2.1) A120.out).mono ?_); rintro e w123 ⟨rfl, hb⟩; replace HO_4 := Aside0.mk (Kd.N_below (by (with_reducible repeat (first | apply Kd.N_alloc | apply Kd.N_drewN | apply Kd.N_drew)); exact HO_4.out) hb); replace HO_69 := Aside0.mk (Kd.N_below (by (with_reducible repeat (first | apply Kd.N_alloc | apply Kd.N_drewN | apply Kd.N_drew)); exact HO_69.out) hb); replace HO_483000 := rb_ HO_483000 hb; replace HO_483001 := rb_ HO_483001 hb; replace HO_491000 := rb_ HO_491000 hb; replace HO_491001 := rb_ HO_491001 hb; replace BK482 := bb_ BK482 hb; replace BK490 := bb_ BK490 hb; replace HB := b1_ hb; clear hb))
                          go_ret
                          exact ⟨by first | rfl | (simp [errW_none, errW_some] <;> rfl) | (simp only [← hji4]; first | rfl | (simp [errW_none, errW_some] <;> rfl)) | (simp [*, errW_none, errW_some] <;> rfl), hB_⟩
                        · rw [if_neg c119] at H
                          have c119b0 : (x11_3 == t489) = false := by simpa using c119
                          (try (have c119b1 : decide (x11_3 = t489) = false := by simpa using c119))
                          (try (have c119b2 : (x11_3 == t489) = false := by simpa using c119))
                          (try (have c119b3 : ¬ (x11_3 = t489) := by simpa using c119))
                          clear c119
                          exact absurd (Option.some.inj H) (by rw [hr1_.out]; decide)
                      · rw [if_neg c118] at H
                        have c118b0 : (x5_2 == (t457.length : Int)) = false := beq_eq_false_iff_ne.mpr c118
                        have c118b1 : (x5_2 != (t457.length : Int)) = true := bne_iff_ne.mpr c118
                        exact absurd (Option.some.inj H) (by rw [hr1_.out]; decide)
end Go.Proofs.Ytoijcallajegfaa.A
end
section
/- Lists of surfaces sorted, each once: put in one by one, or all at the end. No conditions. -/
namespace Go.Proofs.Ytoijcallajegfaa.M
set_option linter.unusedVariables false
set_option linter.unusedSimpArgs false
open Go.RowKit Go.Proofs.YtoijcallajegfaaW.PrintWords Go.Proofs.YtoijcallajegfaaW.PrintLast Go.Proofs.YtoijcallajegfaaW.PrintMore Go.Proofs.Ytoijcallajegfaa.A
def Up (l : List (List Nat × List Nat)) : Prop := l.Pairwise (fun a b => cmpS a b < 0)
theorem Up.nodup {l : List (List Nat × List Nat)} (h : Up l) : l.Nodup :=
  h.imp (fun {a b} hab e => by subst e; rw [(cmpS_eq _ _).2 rfl] at hab; omega)
theorem up_uniq {l l' : List (List Nat × List Nat)} (h : Up l) (h' : Up l') (hm : ∀ x, x ∈ l ↔ x ∈ l') : l = l' := by
  refine List.Perm.eq_of_pairwise (le := fun a b => cmpS a b < 0) ?_ h h' ((List.perm_ext_iff_of_nodup h.nodup h'.nodup).2 hm)
  intro a b _ _ h1 h2
  have := cmpS_neg a b
  omega
def insS (l : List (List Nat × List Nat)) (s : List Nat × List Nat) : List (List Nat × List Nat) :=
  match l with
  | [] => [s]
  | x :: xs => if x = s then x :: xs else if cmpS s x < 0 then s :: x :: xs else x :: insS xs s
theorem mem_insS {l : List (List Nat × List Nat)} {s y : List Nat × List Nat} : y ∈ insS l s ↔ y = s ∨ y ∈ l := by
  induction l with
  | nil => simp [insS]
  | cons x xs ih =>
    unfold insS
    split
    · rename_i e; subst e; simp
    · split
      · simp
      · simp only [List.mem_cons, ih]
        constructor
        · rintro (h | h | h)
          · exact .inr (.inl h)
          · exact .inl h
          · exact .inr (.inr h)
        · rintro (h | h | h)
          · exact .inr (.inl h)
          · exact .inl h
          · exact .inr (.inr h)
theorem up_insS {l : List (List Nat × List Nat)} (s : List Nat × List Nat) (h : Up l) : Up (insS l s) := by
  induction l with
  | nil => exact List.pairwise_singleton _ _
  | cons x xs ih =>
    obtain ⟨h1, h2⟩ := List.pairwise_cons.1 h
    unfold insS
    split
    · exact h
    · rename_i hne
      split
      · rename_i hlt
        refine List.pairwise_cons.2 ⟨?_, h⟩
        intro y hy
        rcases List.mem_cons.1 hy with rfl | hy
        · exact hlt
        · exact cmpS_tr _ _ _ hlt (h1 y hy)
      · rename_i hnl
        refine List.pairwise_cons.2 ⟨?_, ih h2⟩
        intro y hy
        rcases mem_insS.1 hy with rfl | hy
        · have e := cmpS_neg x y
          have : cmpS x y ≠ 0 := fun h0 => hne ((cmpS_eq _ _).1 h0)
          omega
        · exact h1 y hy
def insAll (l : List (List Nat × List Nat)) (ss : List (List Nat × List Nat)) : List (List Nat × List Nat) := ss.foldl insS l
theorem up_insAll : ∀ (ss l : List (List Nat × List Nat)), Up l → Up (insAll l ss)
  | [], _, h => h
  | s :: ss, l, h => up_insAll ss (insS l s) (up_insS s h)
theorem mem_insAll : ∀ (ss l : List (List Nat × List Nat)) (y : List Nat × List Nat), y ∈ insAll l ss ↔ y ∈ l ∨ y ∈ ss
  | [], l, y => by simp [insAll]
  | s :: ss, l, y => by
    have := mem_insAll ss (insS l s) y
    rw [mem_insS] at this
    show y ∈ insAll (insS l s) ss ↔ _
    rw [this, List.mem_cons]
    constructor
    · rintro ((h | h) | h)
      · exact .inr (.inl h)
      · exact .inl h
      · exact .inr (.inr h)
    · rintro (h | h | h)
      · exact .inl (.inr h)
      · exact .inl (.inl h)
      · exact .inr h
theorem mem_cptGo : ∀ (p : List Nat × List Nat) (l : List (List Nat × List Nat)) (y : List Nat × List Nat), y ∈ p :: cptGo (fun a b => decide (a = b)) p l ↔ y ∈ p :: l
  | p, [], y => by simp [cptGo]
  | p, x :: l, y => by
    have := mem_cptGo x l y
    unfold cptGo
    by_cases e : x = p
    · subst e
      simp only [decide_true, if_true]
      rw [this]
      simp
    · simp only [e, decide_false, Bool.false_eq_true, if_false]
      rw [List.mem_cons, this, List.mem_cons (l := x :: l)]
theorem up_cptGo : ∀ (p : List Nat × List Nat) (l : List (List Nat × List Nat)), (p :: l).Pairwise (fun a b => ¬ cmpS b a < 0) → Up (p :: cptGo (fun a b => decide (a = b)) p l)
  | p, [], _ => List.pairwise_singleton _ _
  | p, x :: l, h => by
    obtain ⟨h1, h2⟩ := List.pairwise_cons.1 h
    have := up_cptGo x l h2
    unfold cptGo
    by_cases e : x = p
    · subst e
      simp only [decide_true, if_true]
      exact this
    · simp only [e, decide_false, Bool.false_eq_true, if_false]
      refine List.pairwise_cons.2 ⟨?_, this⟩
      intro y hy
      rw [mem_cptGo] at hy
      have hpx : cmpS p x < 0 := by
        have a := h1 x (by simp)
        have b := cmpS_neg p x
        have c : cmpS p x ≠ 0 := fun h0 => e ((cmpS_eq _ _).1 h0).symm
        omega
      rcases List.mem_cons.1 hy with rfl | hy
      · exact hpx
      · have hxy := (List.pairwise_cons.1 h2).1 y hy
        by_cases e0 : cmpS x y = 0
        · rw [← (cmpS_eq _ _).1 e0]; exact hpx
        · have := cmpS_neg x y
          exact cmpS_tr _ _ _ hpx (by omega)
theorem sortS_ins (l : List (List Nat × List Nat)) : sortS l = insAll [] l := by
  have hp := List.mergeSort_perm l (fun a b => decide (¬ cmpS b a < 0))
  have hs : (l.mergeSort (fun a b => decide (¬ cmpS b a < 0))).Pairwise (fun a b => ¬ cmpS b a < 0) := by
    have := List.pairwise_mergeSort (le := fun a b => decide (¬ cmpS b a < 0)) (fun a b c h1 h2 => decide_eq_true (cmpS_le_tr c b a (of_decide_eq_true h2) (of_decide_eq_true h1))) (fun a b => by
      have := cmpS_neg a b
      simp only [Bool.or_eq_true, decide_eq_true_eq]
      omega) l
    exact this.imp (fun h => of_decide_eq_true h)
  unfold sortS
  generalize l.mergeSort (fun a b => decide (¬ cmpS b a < 0)) = m at hp hs
  have h2 := up_insAll l [] List.Pairwise.nil
  cases m with
  | nil =>
    have : l = [] := hp.symm.eq_nil
    subst this
    rfl
  | cons x m =>
    refine up_uniq (up_cptGo x m hs) h2 ?_
    intro y
    rw [mem_insAll]
    show y ∈ x :: cptGo (fun a b => decide (a = b)) x m ↔ _
    rw [mem_cptGo, hp.mem_iff]
    simp
end Go.Proofs.Ytoijcallajegfaa.M
end
section
/- Cycles: the program and the reference answer alike. No conditions. -/
namespace Go.Proofs.Ytoijcallajegfaa.M
set_option linter.unusedVariables false
set_option linter.unusedSimpArgs false
open Go.RowKit Go.Proofs.YtoijcallajegfaaW.PrintWords Go.Proofs.YtoijcallajegfaaW.PrintLast Go.Proofs.YtoijcallajegfaaW.PrintMore Go.Proofs.Ytoijcallajegfaa.A
def I2 (l : List (List Nat)) : List (List Int) := l.map I
theorem I2_len (l : List (List Nat)) : (I2 l).length = l.length := by simp [I2]
theorem I2_snoc (l : List (List Nat)) (c : List Nat) : I2 l ++ [I c] = I2 (l ++ [c]) := by simp [I2]
theorem cyc_len (p : List Nat) (i : Nat) : (cyc p i).length ≤ i := by
  induction i with
  | zero => simp [cyc]
  | succ i ih =>
    unfold cyc
    split
    · omega
    · simp
      omega
theorem orbTo_len (p : List Nat) (s m : Nat) : (orbTo p s m).length = m := by simp [orbTo]
theorem mem_flat {l : List (List Nat)} {x : Nat} : x ∈ l.flatten ↔ ∃ c ∈ l, x ∈ c := by simp
theorem cyc_next {p : List Nat} (hp : IsP p) {i m : Nat} (hi : i < p.length) (hnew : ¬ ∃ c ∈ cyc p i, i ∈ c) (hm : m < per p i) : itr p m i ∉ (cyc p i).flatten ++ orbTo p i m := by
  intro h
  rcases List.mem_append.mp h with h | h
  · exact cyc_new hp hi hnew ((mem_orb hp hi).mpr ⟨m, rfl⟩) (mem_flat.mp h)
  · by_cases e : m = 0
    · subst e
      simp [orbTo] at h
    · exact orb_close hp hi hm (by omega) h
theorem cyc_shut {p : List Nat} (hp : IsP p) {i : Nat} (hi : i < p.length) : itr p (per p i) i ∈ (cyc p i).flatten ++ orbTo p i (per p i) := by
  rw [(per_spec hp hi).1]
  exact List.mem_append.mpr (.inr (orb_self hp hi))
theorem cyc_succ_new {p : List Nat} {i : Nat} (hnew : ¬ ∃ c ∈ cyc p i, i ∈ c) : cyc p (i + 1) = cyc p i ++ [orb p i] := by
  rw [cyc, if_neg hnew]
theorem cyc_succ_old {p : List Nat} {i : Nat} (h : ∃ c ∈ cyc p i, i ∈ c) : cyc p (i + 1) = cyc p i := by
  rw [cyc, if_pos h]
theorem marks_rep (n : Nat) : Marks n (List.replicate n false) ([] : List Nat) := by
  refine ⟨by simp, fun x hx => ?_⟩
  rw [List.getD_eq_getElem?_getD, List.getElem?_replicate]
  simp [hx]
theorem impl_cycles {p : List Nat} (hp : IsP p) (h24 : p.length ≤ 24) : Ev (fun k => impl_CyclesOf.f k (I p)) (I2 (cycles p)) := by
  unfold impl_CyclesOf.f
  refine Ev.bind (impl_permOk (I p)) ?_
  have h0 : permB (I p) = true := permB_I.mpr ⟨hp, h24⟩
  have h1 : (0 : Int) ≤ (p.length : Int) := by omega
  have h2 : p.length ≤ 281474976710656 := by omega
  simp only [h0, I_len', h1, h2, if_true, Int.toNat_natCast]
  have H : ∀ (d i : Nat) (s : List Bool), i + d = p.length → Marks p.length s (cyc p i).flatten → Ev (fun k => impl_CyclesOf.l0 k (I p) s (I2 (cyc p i)) (p.length : Int) (i : Int)) (I2 (cycles p)) := by
    intro d
    induction d with
    | zero =>
      intro i s h hm
      obtain rfl : i = p.length := by omega
      refine ev_succ ?_
      have h1 : ¬ ((p.length : Int) < (p.length : Int)) := by omega
      simp only [impl_CyclesOf.l0, h1, if_false]
      exact Ev.now _
    | succ d ih =>
      intro i s h hm
      have hi : i < p.length := by omega
      have c1 : (i : Int) < (p.length : Int) := by omega
      have c2 : (0 : Int) ≤ (i : Int) := by omega
      have c3 : (i : Int) < (s.length : Int) := by have := hm.1; omega
      have h3 := w64s i (by omega)
      refine ev_succ ?_
      by_cases hs : s.getD i false = true
      · have ho := mem_flat.mp ((hm.2 i hi).mp hs)
        simp only [impl_CyclesOf.l0, c1, c2, c3, rdOf_nat, hs, if_true, h3]
        have := ih (i + 1) s (by omega) (by rw [cyc_succ_old ho]; exact hm)
        rw [cyc_succ_old ho] at this
        exact this
      · have hnew : ¬ ∃ c ∈ cyc p i, i ∈ c := fun h => hs ((hm.2 i hi).mpr (mem_flat.mpr h))
        simp only [impl_CyclesOf.l0, c1, c2, c3, rdOf_nat, hs, if_true, if_false]
        have G : ∀ (e m : Nat) (t : List Bool), m + e = per p i → Marks p.length t ((cyc p i).flatten ++ orbTo p i m) → Ev (fun k => impl_CyclesOf.l1 k (I p) t (I2 (cyc p i)) (I (orbTo p i m)) ((itr p m i : Nat) : Int) (p.length : Int) (i : Int)) (I2 (cycles p)) := by
          intro e
          induction e with
          | zero =>
            intro m t he ht
            obtain rfl : m = per p i := by omega
            refine ev_succ ?_
            have hx := itr_lt hp (per p i) hi
            have d1 : (0 : Int) ≤ ((itr p (per p i) i : Nat) : Int) := by omega
            have d2 : ((itr p (per p i) i : Nat) : Int) < (t.length : Int) := by have := ht.1; omega
            have d3 := (ht.2 _ hx).mpr (cyc_shut hp hi)
            have d4 : (I2 (cyc p i)).length < 5864062014805 := by rw [I2_len]; have := cyc_len p i; omega
            simp only [impl_CyclesOf.l1, d1, d2, rdOf_nat, d3, d4, if_true, h3]
            have := ih (i + 1) t (by omega) (by rw [cyc_succ_new hnew]; simpa [orb] using ht)
            rw [cyc_succ_new hnew, ← I2_snoc] at this
            exact this
          | succ e ihe =>
            intro m t he ht
            refine ev_succ ?_
            have hx := itr_lt hp m hi
            have hn := cyc_next hp hi hnew (m := m) (by omega)
            have d1 : (0 : Int) ≤ ((itr p m i : Nat) : Int) := by omega
            have d2 : ((itr p m i : Nat) : Int) < (t.length : Int) := by have := ht.1; omega
            have d3 : ¬ t.getD (itr p m i) false = true := fun k => hn ((ht.2 _ hx).mp k)
            have d4 : (I (orbTo p i m)).length < 17592186044416 := by rw [I_len, orbTo_len]; have := (per_spec hp hi).2.1; omega
            have d5 : ((itr p m i : Nat) : Int) < (p.length : Int) := by omega
            simp only [impl_CyclesOf.l1, d1, d2, rdOf_nat, d3, d4, d5, I_len', if_true, if_false, rdI, Int.toNat_natCast, I_snoc, orbTo_snoc]
            have := ihe (m + 1) (t.set (itr p m i) true) (by omega) (by
              have := ht.add hx
              rw [List.append_assoc, orbTo_snoc] at this
              exact this)
            exact this
        have := G (per p i) 0 s (by omega) (by simpa [orbTo] using hm)
        exact this
  exact H p.length 0 _ (by omega) (by simpa [cyc] using marks_rep p.length)
end Go.Proofs.Ytoijcallajegfaa.M
end
section
/- Marks on lists of lists. No conditions. -/
namespace Go.Proofs.Ytoijcallajegfaa.M
set_option linter.unusedVariables false
set_option linter.unusedSimpArgs false
open Go.RowKit Go.Proofs.YtoijcallajegfaaW.PrintWords Go.Proofs.YtoijcallajegfaaW.PrintLast Go.Proofs.YtoijcallajegfaaW.PrintMore Go.Proofs.Ytoijcallajegfaa.A
def totL (xs : List (List Int)) : Nat := (xs.map List.length).sum
theorem getD_mid {α : Type} (p : List α) (x : α) (xs : List α) (d : α) : (p ++ x :: xs).getD p.length d = x := by
  rw [List.getD_eq_getElem?_getD, List.getElem?_append_right (Nat.le_refl _)]
  simp
end Go.Proofs.Ytoijcallajegfaa.M
end
section
/- Rows: the program and the reference answer alike. No conditions. -/
namespace Go.Proofs.Ytoijcallajegfaa.M
set_option linter.unusedVariables false
set_option linter.unusedSimpArgs false
open Go.RowKit Go.Proofs.YtoijcallajegfaaW.PrintWords Go.Proofs.YtoijcallajegfaaW.PrintLast Go.Proofs.YtoijcallajegfaaW.PrintMore Go.Proofs.Ytoijcallajegfaa.A
theorem cycles_len {p : List Nat} (h24 : p.length ≤ 24) : (cycles p).length ≤ 24 := Nat.le_trans (cyc_len p p.length) h24
theorem cycle_len {p : List Nat} (hp : IsP p) (h24 : p.length ≤ 24) : ∀ c ∈ cycles p, c.length ≤ 24 := by
  intro c hc
  obtain ⟨s, hs, rfl⟩ := cyc_form p p.length c hc
  unfold orb
  rw [orbTo_len]
  have := (per_spec hp hs).2.1
  omega
structure SmallSS (l : List (List Int)) : Prop where
  n : l.length ≤ 24
  m : ∀ x ∈ l, x.length ≤ 24
  t : totL l ≤ 1000
end Go.Proofs.Ytoijcallajegfaa.M
end
section
/- One round about a corner; first places in lists. No conditions. -/
namespace Go.Proofs.Ytoijcallajegfaa.M
set_option linter.unusedVariables false
set_option linter.unusedSimpArgs false
open Go.RowKit Go.Proofs.YtoijcallajegfaaW.PrintWords Go.Proofs.YtoijcallajegfaaW.PrintLast Go.Proofs.YtoijcallajegfaaW.PrintMore Go.Proofs.Ytoijcallajegfaa.A
theorem impl_then {p q : List Nat} (hp : IsP p) (hq : IsP q) (hl : p.length = q.length) (h24 : p.length ≤ 24) : Ev (fun k => impl_ThenPerm.f k (I p) (I q)) (I (thn p q)) := by
  unfold impl_ThenPerm.f
  refine Ev.bind (impl_permOk (I p)) ?_
  have e1 : permB (I p) = true := permB_I.mpr ⟨hp, h24⟩
  have e2 : permB (I q) = true := permB_I.mpr ⟨hq, by omega⟩
  simp only [e1, if_true]
  refine Ev.bind (impl_permOk (I q)) ?_
  have e3 : ((p.length : Int) != (q.length : Int)) = false := by simp [hl]
  simp only [e2, if_true, I_len', e3]
  refine ev_succ ?_
  have h1 : (0 : Int) ≤ (p.length : Int) := by omega
  have h2 : p.length ≤ 35184372088832 := by omega
  simp only [impl_ThenPerm.j0, Bool.false_eq_true, if_false, I_len', h1, h2, if_true, Int.toNat_natCast]
  have H : ∀ (d i : Nat) (c : List Nat), i + d = p.length → c.length = p.length → (∀ j, j < i → g c j = g q (g p j)) → Ev (fun k => impl_ThenPerm.l0 k (I q) (I c) (I p) (p.length : Int) (i : Int)) (I (thn p q)) := by
    intro d
    induction d with
    | zero =>
      intro i c h hc hx
      refine ev_succ ?_
      have h1 : ¬ ((i : Int) < (p.length : Int)) := by omega
      have e : thn p q = c := by
        refine (eq_tab hc (fun j hj => hx j (by omega))).symm
      simp only [impl_ThenPerm.l0, h1, if_false]
      rw [e]
      exact Ev.now _
    | succ d ih =>
      intro i c h hc hx
      refine ev_succ ?_
      have hi : i < p.length := by omega
      have gp := g_lt hp hi
      have c1 : (i : Int) < (p.length : Int) := by omega
      have c2 : (0 : Int) ≤ (i : Int) := by omega
      have c3 : (0 : Int) ≤ ((g p i : Nat) : Int) := by omega
      have c4 : ((g p i : Nat) : Int) < (q.length : Int) := by omega
      have c5 : (i : Int) < (c.length : Int) := by omega
      have h3 := w64s i (by omega)
      simp only [impl_ThenPerm.l0, c1, c2, c3, c4, c5, h3, rdI, I_len', I_set, if_true, Int.toNat_natCast]
      refine ih (i + 1) _ (by omega) (by rw [List.length_set]; exact hc) (fun j hj => ?_)
      rw [g_set (by omega)]
      by_cases e : i = j
      · subst e
        simp
      · rw [if_neg e]
        exact hx j (by omega)
  have := H p.length 0 (List.replicate p.length 0) (by omega) (by simp) (fun j hj => by omega)
  rw [I_rep] at this
  exact this
def arnd (r u : List Nat) : List Nat := thn (thn r u) (thn (inv r) (inv u))
theorem arnd_len (r u : List Nat) : (arnd r u).length = r.length := by unfold arnd; rw [thn_len, thn_len]
theorem isP_arnd {r u : List Nat} (hs : Sf r u) : IsP (arnd r u) :=
  isP_thn (isP_thn hs.pr hs.pu hs.eq.symm) (isP_thn (isP_inv hs.pr) (isP_inv hs.pu) (by rw [inv_len, inv_len, hs.eq])) (by rw [thn_len, thn_len, inv_len])
theorem impl_around {r u : List Nat} (hs : Sf r u) : Ev (fun k => impl_AroundOf.f k (I r) (I u)) (I (arnd r u)) := by
  have hle := hs.le
  have heq := hs.eq
  unfold impl_AroundOf.f
  refine Ev.bind (impl_surf _ _) ?_
  rw [surfB_I.mpr hs]
  simp only [if_true]
  refine Ev.bind (impl_then hs.pr hs.pu heq.symm hs.le) ?_
  refine Ev.bind (impl_inv hs.pr hs.le) (Ev.bind (impl_inv hs.pu (by omega)) ?_)
  refine Ev.bind (impl_then (isP_inv hs.pr) (isP_inv hs.pu) (by rw [inv_len, inv_len, heq]) (by rw [inv_len]; omega)) ?_
  refine Ev.bind (impl_then (isP_thn hs.pr hs.pu heq.symm) (isP_thn (isP_inv hs.pr) (isP_inv hs.pu) (by rw [inv_len, inv_len, heq])) (by rw [thn_len, thn_len, inv_len]) (by rw [thn_len]; omega)) ?_
  exact Ev.now _
theorem rdL_mid (a : List (List Nat)) (c : List Nat) (b : List (List Nat)) : rd_L5 (I2 (a ++ c :: b)) (a.length : Int) = I c := by
  unfold rd_L5 I2
  rw [Int.toNat_natCast, List.map_append, List.map_cons, ← List.length_map (f := I)]
  exact getD_mid _ _ _ _
theorem rdL_I2 (l : List (List Nat)) (i : Nat) (h : i < l.length) : rd_L5 (I2 l) (i : Int) = I (l[i]) := by
  unfold rd_L5 I2
  rw [Int.toNat_natCast, List.getD_eq_getElem?_getD, List.getElem?_map, List.getElem?_eq_getElem h]
  rfl
end Go.Proofs.Ytoijcallajegfaa.M
end
section
/- Words of letters: the program and the reference act alike. No conditions. -/
namespace Go.Proofs.Ytoijcallajegfaa.M
set_option linter.unusedVariables false
set_option linter.unusedSimpArgs false
open Go.RowKit Go.Proofs.YtoijcallajegfaaW.PrintWords Go.Proofs.YtoijcallajegfaaW.PrintLast Go.Proofs.YtoijcallajegfaaW.PrintMore Go.Proofs.Ytoijcallajegfaa.A
def lt (c : Int) (s : List Nat × List Nat) : List Nat × List Nat := if c = 84 then (s.1, thn (inv s.1) s.2) else if c = 116 then (s.1, thn s.1 s.2) else if c = 83 then (inv s.2, s.1) else (s.2, inv s.1)
end Go.Proofs.Ytoijcallajegfaa.M
end
section
/- Surfaces that are alike; surfaces that a word keeps. No conditions. -/
namespace Go.Proofs.Ytoijcallajegfaa.M
set_option linter.unusedVariables false
set_option linter.unusedSimpArgs false
open Go.RowKit Go.Proofs.YtoijcallajegfaaW.PrintWords Go.Proofs.YtoijcallajegfaaW.PrintLast Go.Proofs.YtoijcallajegfaaW.PrintMore Go.Proofs.Ytoijcallajegfaa.A
theorem impl_same (a b : List Nat × List Nat) (h1 : a.1.length ≤ 1000000) (h2 : a.2.length ≤ 1000000) : Ev (fun k => impl_SameSurface.f k (I a.1) (I a.2) (I b.1) (I b.2)) (decide (a = b)) := by
  unfold impl_SameSurface.f
  refine Ev.bind (equal_ev a.1 b.1 (by omega)) ?_
  by_cases h : a.1 = b.1
  · have e : decide (a = b) = decide (a.2 = b.2) := by
      rw [decide_eq_decide, Prod.ext_iff]
      simp [h]
    rw [e]
    simp only [h, decide_true, if_true]
    exact Ev.bind (equal_ev a.2 b.2 (by omega)) (Ev.now _)
  · have e : decide (a = b) = false := by
      rw [decide_eq_false_iff_not]
      intro e
      exact h (by rw [e])
    rw [e]
    simp only [h, decide_false, Bool.false_eq_true, if_false]
    exact Ev.now _
end Go.Proofs.Ytoijcallajegfaa.M
end
section
/- All surfaces with few squares: the program and the reference list them alike. No conditions. -/
namespace Go.Proofs.Ytoijcallajegfaa.M
set_option linter.unusedVariables false
set_option linter.unusedSimpArgs false
open Go.RowKit Go.Proofs.YtoijcallajegfaaW.PrintWords Go.Proofs.YtoijcallajegfaaW.PrintLast Go.Proofs.YtoijcallajegfaaW.PrintMore Go.Proofs.Ytoijcallajegfaa.A
def permN (n : Nat) : List (List Nat) := (List.range n).foldl (fun out _ => (out.map (fun p => ((List.range n).filter (fun x => decide (x ∉ p))).map (fun x => p ++ [x]))).flatten) [[]]
theorem allPerms_tab : impl_allPerms.f 500 ((1 : Nat) : Int) = some (I2 (permN 1)) ∧ impl_allPerms.f 500 ((2 : Nat) : Int) = some (I2 (permN 2)) ∧ impl_allPerms.f 500 ((3 : Nat) : Int) = some (I2 (permN 3)) ∧ impl_allPerms.f 500 ((4 : Nat) : Int) = some (I2 (permN 4)) := by decide +kernel
theorem four_cases {n : Nat} (h1 : 1 ≤ n) (h4 : n ≤ 4) : n = 1 ∨ n = 2 ∨ n = 3 ∨ n = 4 := by omega
theorem allPerms_ev {n : Nat} (h1 : 1 ≤ n) (h4 : n ≤ 4) : Ev (fun k => impl_allPerms.f k (n : Int)) (I2 (permN n)) := by
  rcases four_cases h1 h4 with rfl | rfl | rfl | rfl
  · exact Ev.of (impl_allPerms.mono _) allPerms_tab.1
  · exact Ev.of (impl_allPerms.mono _) allPerms_tab.2.1
  · exact Ev.of (impl_allPerms.mono _) allPerms_tab.2.2.1
  · exact Ev.of (impl_allPerms.mono _) allPerms_tab.2.2.2
theorem permN_tab : ∀ n : Fin 5, 1 ≤ n.val → (permN n.val).length ≤ 24 ∧ ∀ p ∈ permN n.val, p.length = n.val := by decide +kernel
theorem permN_len {n : Nat} (h1 : 1 ≤ n) (h4 : n ≤ 4) : (permN n).length ≤ 24 ∧ ∀ p ∈ permN n, p.length = n := permN_tab ⟨n, by omega⟩ h1
def LS (l : List (List Nat × List Nat)) : List S33 := l.map ofN
theorem LS_len (l : List (List Nat × List Nat)) : (LS l).length = l.length := by simp [LS]
theorem LS_app (a b : List (List Nat × List Nat)) : LS (a ++ b) = LS a ++ LS b := by simp [LS]
theorem LS_mid (p : List (List Nat × List Nat)) (x : List Nat × List Nat) (xs : List (List Nat × List Nat)) : rd_T33 (LS (p ++ x :: xs)) (p.length : Int) = ⟨I x.1, I x.2⟩ := by
  unfold rd_T33
  rw [Int.toNat_natCast, LS_app]
  have := getD_mid (LS p) (ofN x) (LS xs) z33
  rw [LS_len] at this
  exact this
def pr (p q : List Nat) : List (List Nat × List Nat) := if surfB (I p) (I q) = true then [canS p q] else []
theorem pr_len (p q : List Nat) : (pr p q).length ≤ 1 := by unfold pr; split <;> simp
theorem pr_mem {p q : List Nat} {x : List Nat × List Nat} (h : x ∈ pr p q) : x.1.length = p.length ∧ x.2.length = q.length := by
  unfold pr at h
  split at h
  · rw [List.mem_singleton.1 h]; exact canK_len _
  · cases h
theorem pr_no {p q : List Nat} (h : ¬ surfB (I p) (I q) = true) : pr p q = [] := by unfold pr; rw [if_neg h]
theorem pr_yes {p q : List Nat} (h : surfB (I p) (I q) = true) : pr p q = [canS p q] := by unfold pr; rw [if_pos h]
def prs (P : List (List Nat)) (p : List Nat) : List (List Nat × List Nat) := P.flatMap (pr p)
def pairs (P R : List (List Nat)) : List (List Nat × List Nat) := R.flatMap (prs P)
theorem flatM_len {α β : Type} (f : α → List β) (n : Nat) (h : ∀ x, (f x).length ≤ n) : ∀ l : List α, (l.flatMap f).length ≤ l.length * n
  | [] => by simp
  | x :: l => by
    have := flatM_len f n h l
    have := h x
    rw [List.flatMap_cons, List.length_append, List.length_cons, Nat.succ_mul]
    omega
theorem prs_len (P : List (List Nat)) (p : List Nat) : (prs P p).length ≤ P.length := by
  have := flatM_len (pr p) 1 (pr_len p) P
  unfold prs; omega
theorem LS_ok {n : Nat} (hn : n ≤ 1000000) {l : List (List Nat × List Nat)} (h : ∀ x ∈ l, x.1.length = n ∧ x.2.length = n) : ∀ x ∈ LS l, okS x := by
  intro x hx
  obtain ⟨y, hy, rfl⟩ := List.mem_map.1 hx
  have := h y hy
  exact ⟨I_NN (by omega), I_NN (by omega)⟩
theorem LS_toN (l : List (List Nat × List Nat)) : (LS l).map toN = l := by
  unfold LS
  rw [List.map_map]
  conv => rhs; rw [← List.map_id l]
  exact List.map_congr_left (fun x _ => toN_ofN x)
theorem sortSurf_f {n : Nat} (hn : n ≤ 1000000) {l : List (List Nat × List Nat)} (h : ∀ x ∈ l, x.1.length = n ∧ x.2.length = n) (hl : l.length ≤ 1000000) : impl_sortSurfaces.f (LS l) = some (LS (insAll [] l)) := by
  unfold impl_sortSurfaces.f
  rw [if_pos ⟨LS_ok hn h, by rw [LS_len]; omega⟩, LS_toN, sortS_ins]
  rfl
theorem rdL_P {P pre rest : List (List Nat)} {p : List Nat} (e : pre ++ p :: rest = P) : rd_L5 (I2 P) (pre.length : Int) = I p := by rw [← e]; exact rdL_mid pre p rest
def surfN (n : Nat) : List (List Nat × List Nat) := insAll [] (pairs (permN n) (permN n))
theorem impl_with {n : Nat} (h1 : 1 ≤ n) (h4 : n ≤ 4) : Ev (fun k => impl_SurfacesWith.f k (n : Int)) (LS (surfN n)) := by
  obtain ⟨hP, hQ⟩ := permN_len h1 h4
  have hA := allPerms_ev h1 h4
  unfold impl_SurfacesWith.f
  have c1 : ¬ ((n : Int) < 1) := by omega
  have c2 : ¬ ((n : Int) > 4) := by omega
  simp only [c1, c2, if_false, decide_false]
  refine ev_succ ?_
  simp only [impl_SurfacesWith.j0, Bool.false_eq_true, if_false]
  refine Ev.bind hA ?_
  unfold surfN
  generalize permN n = P at hP hQ hA
  have H1 : ∀ (p : List Nat) (x20 : Int) (R : List S33) (rest pre : List (List Nat)) (acc : List (List Nat × List Nat)), pre ++ rest = P → acc.length + rest.length ≤ 100000 →
      Ev (fun k => impl_SurfacesWith.l0 k (n : Int) (LS (acc ++ rest.flatMap (pr p))) (I2 P) ((I2 P).length : Int) (wrap64 (x20 + 1))) R → Ev (fun k => impl_SurfacesWith.l1 k (n : Int) (LS acc) (I p) (I2 P) ((I2 P).length : Int) x20 (I2 P) ((I2 P).length : Int) (pre.length : Int)) R := by
    intro p x20 R rest
    induction rest with
    | nil =>
      intro pre acc e hl hR
      refine ev_succ ?_
      rw [List.append_nil] at e
      have d1 : ¬ ((pre.length : Int) < ((I2 P).length : Int)) := by rw [I2_len, e]; omega
      simp only [impl_SurfacesWith.l1, d1, if_false]
      simpa using hR
    | cons q rest ih =>
      intro pre acc e hl hR
      rw [List.length_cons] at hl
      have hlen : P.length = pre.length + (rest.length + 1) := by rw [← e]; simp
      refine ev_succ ?_
      have d1 : ((pre.length : Int) < ((I2 P).length : Int)) := by rw [I2_len]; omega
      have d2 : (0 : Int) ≤ (pre.length : Int) := by omega
      have d3 := w64s pre.length (by omega)
      have d4 := rdL_P e
      have d5 : (LS acc).length < 2932031007402 := by rw [LS_len]; omega
      have e3 : ((pre ++ [q]).length : Int) = ((pre.length + 1 : Nat) : Int) := by simp
      have hpl := pr_len p q
      have key := ih (pre ++ [q]) (acc ++ pr p q) (by rw [← e]; simp) (by rw [List.length_append]; omega) (by rw [List.append_assoc, ← List.flatMap_cons]; exact hR)
      rw [e3] at key
      simp only [impl_SurfacesWith.l1, d1, d2, d4, if_true]
      by_cases hb : surfB (I p) (I q) = true
      · refine Ev.bind (impl_canon (surfB_I.1 hb)) ?_
        simp only [d5, if_true, d3]
        rw [pr_yes hb, LS_app] at key
        exact key
      · refine Ev.bind (impl_canon_no hb) ?_
        simp only [Bool.false_eq_true, if_false, d3]
        rw [pr_no hb, List.append_nil] at key
        exact key
  have H0 : ∀ (rest pre : List (List Nat)) (acc : List (List Nat × List Nat)), pre ++ rest = P → acc.length + rest.length * 24 ≤ 10000 → (∀ x ∈ acc, x.1.length = n ∧ x.2.length = n) →
      Ev (fun k => impl_SurfacesWith.l0 k (n : Int) (LS acc) (I2 P) ((I2 P).length : Int) (pre.length : Int)) (LS (insAll [] (acc ++ pairs P rest))) := by
    intro rest
    induction rest with
    | nil =>
      intro pre acc e hl hx
      refine ev_succ ?_
      rw [List.append_nil] at e
      have d1 : ¬ ((pre.length : Int) < ((I2 P).length : Int)) := by rw [I2_len, e]; omega
      have d2 := sortSurf_f (by omega) hx (by simp at hl; omega)
      simp only [impl_SurfacesWith.l0, d1, if_false, d2, Option.bind_some]
      have e2 : acc ++ pairs P [] = acc := by simp [pairs]
      rw [e2]
      exact Ev.now _
    | cons p rest ih =>
      intro pre acc e hl hx
      rw [List.length_cons] at hl
      have hlen : P.length = pre.length + (rest.length + 1) := by rw [← e]; simp
      refine ev_succ ?_
      have d1 : ((pre.length : Int) < ((I2 P).length : Int)) := by rw [I2_len]; omega
      have d2 : (0 : Int) ≤ (pre.length : Int) := by omega
      have d3 := w64s pre.length (by omega)
      have d4 := rdL_P e
      simp only [impl_SurfacesWith.l0, d1, d2, d4, if_true]
      refine Ev.bind hA ?_
      have e3 : ((pre ++ [p]).length : Int) = ((pre.length + 1 : Nat) : Int) := by simp
      have hpl := prs_len P p
      have hp : p.length = n := hQ p (by rw [← e]; simp)
      have hx2 : ∀ x ∈ acc ++ prs P p, x.1.length = n ∧ x.2.length = n := by
        intro x hm
        rcases List.mem_append.1 hm with hm | hm
        · exact hx x hm
        · obtain ⟨q, hq, hxq⟩ := List.mem_flatMap.1 hm
          obtain ⟨a1, a2⟩ := pr_mem hxq
          exact ⟨a1.trans hp, a2.trans (hQ q hq)⟩
      have key := ih (pre ++ [p]) (acc ++ prs P p) (by rw [← e]; simp) (by rw [List.length_append]; omega) hx2
      rw [e3, List.append_assoc] at key
      refine H1 p (pre.length : Int) _ P [] acc (by simp) (by omega) ?_
      rw [d3]
      exact key
  have := H0 P [] [] (by simp) (by simp; omega) (by simp)
  rw [List.nil_append] at this
  exact this
end Go.Proofs.Ytoijcallajegfaa.M
end
section
/- Plain mathematics: surfaces that are alike by renaming. No conditions. -/
namespace Go.Proofs.Ytoijcallajegfaa.M
set_option linter.unusedVariables false
set_option linter.unusedSimpArgs false
structure Is (s t : List Nat × List Nat) (f : Nat → Nat) : Prop where
  len : t.1.length = s.1.length
  lt : ∀ x, x < s.1.length → f x < s.1.length
  inj : ∀ x y, x < s.1.length → y < s.1.length → f x = f y → x = y
  r : ∀ x, x < s.1.length → f (g s.1 x) = g t.1 (f x)
  u : ∀ x, x < s.1.length → f (g s.2 x) = g t.2 (f x)
theorem Sf.gr {r u : List Nat} (hs : Sf r u) {x : Nat} (h : x < r.length) : g r x < r.length := g_lt hs.pr h
theorem Sf.gu {r u : List Nat} (hs : Sf r u) {x : Nat} (h : x < r.length) : g u x < r.length := by
  have := g_lt hs.pu (i := x) (by rw [hs.eq]; exact h)
  rw [hs.eq] at this
  exact this
theorem Sf.ir {r u : List Nat} (hs : Sf r u) {x : Nat} (h : x < r.length) : ix r x < r.length := ix_lt hs.pr h
theorem Sf.iu {r u : List Nat} (hs : Sf r u) {x : Nat} (h : x < r.length) : ix u x < r.length := by
  have := ix_lt hs.pu (x := x) (by rw [hs.eq]; exact h)
  rw [hs.eq] at this
  exact this
theorem Is.refl (s : List Nat × List Nat) : Is s s (fun x => x) := ⟨rfl, fun _ h => h, fun _ _ _ _ h => h, fun _ _ => rfl, fun _ _ => rfl⟩
theorem Is.trans {s t v : List Nat × List Nat} {f h : Nat → Nat} (a : Is s t f) (b : Is t v h) : Is s v (fun x => h (f x)) where
  len := b.len.trans a.len
  lt x hx := by have := b.lt (f x) (by rw [a.len]; exact a.lt x hx); rw [a.len] at this; exact this
  inj x y hx hy e := a.inj x y hx hy (b.inj _ _ (by rw [a.len]; exact a.lt x hx) (by rw [a.len]; exact a.lt y hy) e)
  r x hx := by show h (f (g s.1 x)) = _; rw [a.r x hx, b.r _ (by rw [a.len]; exact a.lt x hx)]
  u x hx := by show h (f (g s.2 x)) = _; rw [a.u x hx, b.u _ (by rw [a.len]; exact a.lt x hx)]
def bk (n : Nat) (f : Nat → Nat) (y : Nat) : Nat := ix (tab n f) y
theorem bk_lt {n : Nat} {f : Nat → Nat} (h1 : ∀ x, x < n → f x < n) (h2 : ∀ x y, x < n → y < n → f x = f y → x = y) {y : Nat} (hy : y < n) : bk n f y < n := by
  have := ix_lt (isP_tab h1 h2) (x := y) (by rw [tab_len]; exact hy)
  rw [tab_len] at this
  exact this
theorem f_bk {n : Nat} {f : Nat → Nat} (h1 : ∀ x, x < n → f x < n) (h2 : ∀ x y, x < n → y < n → f x = f y → x = y) {y : Nat} (hy : y < n) : f (bk n f y) = y := by
  have h := g_ix (isP_tab h1 h2) (x := y) (by rw [tab_len]; exact hy)
  have hb : ix (tab n f) y < n := bk_lt h1 h2 hy
  rw [g_tab hb] at h
  exact h
theorem bk_f {n : Nat} {f : Nat → Nat} (h1 : ∀ x, x < n → f x < n) (h2 : ∀ x y, x < n → y < n → f x = f y → x = y) {x : Nat} (hx : x < n) : bk n f (f x) = x :=
  h2 _ _ (bk_lt h1 h2 (h1 x hx)) hx (f_bk h1 h2 (h1 x hx))
theorem Is.symm {s t : List Nat × List Nat} {f : Nat → Nat} (hs : Sf s.1 s.2) (a : Is s t f) : Is t s (bk s.1.length f) where
  len := a.len.symm
  lt y hy := by rw [a.len] at hy ⊢; exact bk_lt a.lt a.inj hy
  inj y z hy hz e := by
    rw [a.len] at hy hz
    rw [← f_bk a.lt a.inj hy, ← f_bk a.lt a.inj hz, e]
  r y hy := by
    rw [a.len] at hy
    have hb := bk_lt a.lt a.inj hy
    have e : g t.1 y = f (g s.1 (bk s.1.length f y)) := by rw [a.r _ hb, f_bk a.lt a.inj hy]
    rw [e, bk_f a.lt a.inj (hs.gr hb)]
  u y hy := by
    rw [a.len] at hy
    have hb := bk_lt a.lt a.inj hy
    have e : g t.2 y = f (g s.2 (bk s.1.length f y)) := by rw [a.u _ hb, f_bk a.lt a.inj hy]
    rw [e, bk_f a.lt a.inj (hs.gu hb)]
theorem Sf.of_is {s t : List Nat × List Nat} {f : Nat → Nat} (hs : Sf s.1 s.2) (a : Is s t f) (p1 : IsP t.1) (p2 : IsP t.2) (hl : t.2.length = t.1.length) : Sf t.1 t.2 := by
  refine sf_of_tr p1 p2 (by rw [a.len]; exact hs.le) hl (by rw [a.len]; exact hs.pos) (fun S s0 k1 k2 y hy => ?_)
  rw [a.len] at k1 k2 hy
  have i0 := bk_lt a.lt a.inj hs.pos
  have h0 : S (f (bk s.1.length f 0)) := by rw [f_bk a.lt a.inj hs.pos]; exact s0
  have hm := (reach_full hs i0).2 (bk s.1.length f y) (bk_lt a.lt a.inj hy)
  have := (bfs_ind (fun x => S (f x)) (n := s.1.length) (fun x hx h => ⟨by rw [a.r x hx]; exact k1 _ (a.lt x hx) h, hs.gr hx⟩) (fun x hx h => ⟨by rw [a.u x hx]; exact k2 _ (a.lt x hx) h, hs.gu hx⟩) _ _ [bk s.1.length f 0] (by intro x hx; obtain rfl : x = bk s.1.length f 0 := (by simpa using hx); exact ⟨h0, i0⟩) _ hm).1
  rw [f_bk a.lt a.inj hy] at this
  exact this
theorem Sf.all_of {r u : List Nat} (hs : Sf r u) {S : Nat → Prop} {i : Nat} (hi : i < r.length) (h0 : S i) (h1 : ∀ x, x < r.length → S x → S (g r x)) (h2 : ∀ x, x < r.length → S x → S (g u x)) : ∀ y, y < r.length → S y := by
  intro y hy
  have hm := (reach_full hs hi).2 y hy
  exact (bfs_ind S (n := r.length) (fun x hx h => ⟨h1 x hx h, hs.gr hx⟩) (fun x hx h => ⟨h2 x hx h, hs.gu hx⟩) _ _ [i] (by intro x hx; obtain rfl : x = i := (by simpa using hx); exact ⟨h0, hi⟩) _ hm).1
theorem Is.ir {s t : List Nat × List Nat} {f : Nat → Nat} (hs : Sf s.1 s.2) (ht : Sf t.1 t.2) (a : Is s t f) {x : Nat} (hx : x < s.1.length) : f (ix s.1 x) = ix t.1 (f x) := by
  have h1 := hs.ir hx
  refine (ix_eq ht.pr (by rw [a.len]; exact a.lt _ h1) ?_).symm
  rw [← a.r _ h1, g_ix hs.pr hx]
theorem Is.iu {s t : List Nat × List Nat} {f : Nat → Nat} (hs : Sf s.1 s.2) (ht : Sf t.1 t.2) (a : Is s t f) {x : Nat} (hx : x < s.1.length) : f (ix s.2 x) = ix t.2 (f x) := by
  have h1 := hs.iu hx
  refine (ix_eq ht.pu (by rw [ht.eq, a.len]; exact a.lt _ h1) ?_).symm
  rw [← a.u _ h1, g_ix hs.pu (by rw [hs.eq]; exact hx)]
end Go.Proofs.Ytoijcallajegfaa.M
end
section
/- What the four letters keep: symmetries and half turns. No conditions. -/
namespace Go.Proofs.Ytoijcallajegfaa.M
set_option linter.unusedVariables false
set_option linter.unusedSimpArgs false
open Classical in
noncomputable def ledN (s t : List Nat × List Nat) (b : Nat) : Nat := ((List.range s.1.length).filter (fun i => decide (∃ f, Is s t f ∧ f b = i))).length
def symN (s : List Nat × List Nat) : Nat := ((List.range s.1.length).filter (fun i => decide (rS s.1 s.2 i = canS s.1 s.2))).length
def neg (s : List Nat × List Nat) : List Nat × List Nat := (inv s.1, inv s.2)
end Go.Proofs.Ytoijcallajegfaa.M
end
section
/- Plain mathematics: classes of what is linked. No conditions. -/
namespace Go.Proofs.Ytoijcallajegfaa.M
set_option linter.unusedVariables false
set_option linter.unusedSimpArgs false
inductive Cn (up : Nat → Option Nat) : Nat → Nat → Prop
  | refl (i : Nat) : Cn up i i
  | up {i j k : Nat} : up i = some j → Cn up j k → Cn up i k
  | dn {i j k : Nat} : up j = some i → Cn up j k → Cn up i k
theorem Cn.trans {up : Nat → Option Nat} {i j k : Nat} (h : Cn up i j) (h' : Cn up j k) : Cn up i k := by
  induction h with
  | refl i => exact h'
  | up e _ ih => exact .up e (ih h')
  | dn e _ ih => exact .dn e (ih h')
theorem Cn.symm {up : Nat → Option Nat} {i j : Nat} (h : Cn up i j) : Cn up j i := by
  induction h with
  | refl i => exact .refl i
  | up e _ ih => exact ih.trans (.dn e (.refl _))
  | dn e _ ih => exact ih.trans (.up e (.refl _))
theorem Cn.one {up : Nat → Option Nat} {i j : Nat} (h : up i = some j) : Cn up i j := .up h (.refl _)
theorem Cn.lt {n : Nat} {up : Nat → Option Nat} (hup : ∀ i j, up i = some j → i < n ∧ j < n) {i j : Nat} (h : Cn up i j) (hi : i < n) : j < n := by
  induction h with
  | refl i => exact hi
  | up e _ ih => exact ih (hup _ _ e).2
  | dn e _ ih => exact ih (hup _ _ e).1
theorem Cn.closed {up : Nat → Option Nat} {S : Nat → Prop} (hS : ∀ i j, up i = some j → (S i ↔ S j)) {i j : Nat} (h : Cn up i j) : S i ↔ S j := by
  induction h with
  | refl i => exact Iff.rfl
  | up e _ ih => exact (hS _ _ e).trans ih
  | dn e _ ih => exact (hS _ _ e).symm.trans ih
structure Grp (n : Nat) (up : Nat → Option Nat) (t : Nat) (G : Nat → Nat) : Prop where
  le : ∀ j, j < n → G j ≤ j
  fix : ∀ j, j < n → G (G j) = G j
  cn : ∀ j, j < n → Cn up j (G j)
  ed : ∀ i j, i < t → up i = some j → G i = G j
def mgf (G : Nat → Nat) (a b : Nat) : Nat → Nat := fun j => if G j = a ∨ G j = b then min a b else G j
theorem Grp.start (n : Nat) (up : Nat → Option Nat) : Grp n up 0 (fun j => j) := ⟨fun j _ => Nat.le_refl _, fun j _ => rfl, fun j _ => .refl _, fun i j h _ => by omega⟩
theorem Grp.skip {n t : Nat} {up : Nat → Option Nat} {G : Nat → Nat} (h : Grp n up t G) (e : up t = none) : Grp n up (t + 1) G :=
  ⟨h.le, h.fix, h.cn, fun i j hi hj => by
    by_cases e2 : i = t
    · subst e2
      rw [e] at hj
      cases hj
    · exact h.ed i j (by omega) hj⟩
theorem Grp.merge {n t k : Nat} {up : Nat → Option Nat} (hup : ∀ i j, up i = some j → i < n ∧ j < n) {G : Nat → Nat} (h : Grp n up t G) (e : up t = some k) : Grp n up (t + 1) (mgf G (G t) (G k)) := by
  obtain ⟨ht, hk⟩ := hup t k e
  have ha := h.fix t ht
  have hb := h.fix k hk
  have la := h.le t ht
  have lb := h.le k hk
  have hab : Cn up (G t) (G k) := (h.cn t ht).symm.trans ((Cn.one e).trans (h.cn k hk))
  have hm : min (G t) (G k) = G t ∨ min (G t) (G k) = G k := by omega
  refine ⟨fun j hj => ?_, fun j hj => ?_, fun j hj => ?_, fun i j hi hj => ?_⟩
  · unfold mgf
    have := h.le j hj
    split <;> omega
  · have key : ∀ c, (c = G t ∨ c = G k) → mgf G (G t) (G k) c = min (G t) (G k) := by
      intro c hc
      unfold mgf
      rw [if_pos (by rcases hc with rfl | rfl; exact .inl ha; exact .inr hb)]
    by_cases hc : G j = G t ∨ G j = G k
    · have e1 : mgf G (G t) (G k) j = min (G t) (G k) := by unfold mgf; rw [if_pos hc]
      rw [e1]
      exact key _ hm
    · have e1 : mgf G (G t) (G k) j = G j := by unfold mgf; rw [if_neg hc]
      rw [e1]
      unfold mgf
      rw [h.fix j hj, if_neg hc]
  · unfold mgf
    split
    · rename_i hc
      refine (h.cn j hj).trans ?_
      rcases hc with hc | hc <;> rcases hm with hm | hm <;> rw [hc, hm]
      · exact .refl _
      · exact hab
      · exact hab.symm
      · exact .refl _
    · exact h.cn j hj
  · by_cases e2 : i = t
    · subst e2
      rw [e] at hj
      injection hj with hj
      subst hj
      unfold mgf
      simp
    · unfold mgf
      rw [h.ed i j (by omega) hj]
theorem Grp.iff {n : Nat} {up : Nat → Option Nat} (hup : ∀ i j, up i = some j → i < n ∧ j < n) {G : Nat → Nat} (h : Grp n up n G) {i j : Nat} (hi : i < n) (hj : j < n) : G i = G j ↔ Cn up i j := by
  constructor
  · intro e
    have := (h.cn i hi).trans ((by rw [e]; exact .refl _ : Cn up (G i) (G j)).trans (h.cn j hj).symm)
    exact this
  · intro hc
    induction hc with
    | refl i => rfl
    | up e _ ih => rw [h.ed _ _ (hup _ _ e).1 e]; exact ih (hup _ _ e).2 hj
    | dn e _ ih => rw [← h.ed _ _ (hup _ _ e).1 e]; exact ih (hup _ _ e).1 hj
theorem Grp.head {n : Nat} {up : Nat → Option Nat} (hup : ∀ i j, up i = some j → i < n ∧ j < n) {G : Nat → Nat} (h : Grp n up n G) {i : Nat} (hi : i < n) : G i = i ↔ ∀ j, Cn up i j → i ≤ j := by
  constructor
  · intro e j hc
    have hj := hc.lt hup hi
    have := (h.iff hup hi hj).mpr hc
    have := h.le j hj
    omega
  · intro hc
    have := hc _ (h.cn i hi)
    have := h.le i hi
    omega
def ups (up : Nat → Option Nat) : Nat → Nat → Option Nat
  | 0, i => some i
  | m + 1, i => (up i).bind (ups up m)
theorem ups_succ (up : Nat → Option Nat) (m i : Nat) : ups up (m + 1) i = (ups up m i).bind up := by
  induction m generalizing i with
  | zero =>
    simp only [ups, Option.bind_some]
    cases h : up i <;> rfl
  | succ m ih =>
    show (up i).bind (ups up (m + 1)) = ((up i).bind (ups up m)).bind up
    cases h : up i with
    | none => rfl
    | some j => exact ih j
theorem ups_cn {up : Nat → Option Nat} {m i j : Nat} (h : ups up m i = some j) : Cn up i j := by
  induction m generalizing i with
  | zero => simp [ups] at h; subst h; exact .refl _
  | succ m ih =>
    obtain ⟨z, hz, h2⟩ := Option.bind_eq_some_iff.mp h
    exact .up hz (ih h2)
structure Mk (n : Nat) (up : Nat → Option Nat) (row : Nat) (S0 add : List Nat) : Prop where
  nd : add.Nodup
  lt : ∀ x ∈ add, x < n
  new : ∀ x ∈ add, x ∉ S0
  p : ∀ x ∈ add, (∃ m, ups up m row = some x) ∨ (∃ m, ups up m x = some row)
theorem Mk.cn {n : Nat} {up : Nat → Option Nat} {row : Nat} {S0 add : List Nat} (h : Mk n up row S0 add) {x : Nat} (hx : x ∈ add) : Cn up row x := by
  rcases h.p x hx with ⟨m, hm⟩ | ⟨m, hm⟩
  · exact ups_cn hm
  · exact (ups_cn hm).symm
theorem Mk.add {n : Nat} {up : Nat → Option Nat} {row : Nat} {S0 add : List Nat} (h : Mk n up row S0 add) {x : Nat} (hx : x < n) (h1 : x ∉ S0) (h2 : x ∉ add) (hp : (∃ m, ups up m row = some x) ∨ (∃ m, ups up m x = some row)) : Mk n up row S0 (add ++ [x]) := by
  refine ⟨List.nodup_append.mpr ⟨h.nd, by simp, fun a ha b hb e => ?_⟩, fun y hy => ?_, fun y hy => ?_, fun y hy => ?_⟩
  · have : b = x := by simpa using hb
    exact h2 (by rw [← this, ← e]; exact ha)
  · rcases List.mem_append.mp hy with hy | hy
    · exact h.lt y hy
    · have : y = x := by simpa using hy
      omega
  · rcases List.mem_append.mp hy with hy | hy
    · exact h.new y hy
    · have : y = x := by simpa using hy
      rw [this]
      exact h1
  · rcases List.mem_append.mp hy with hy | hy
    · exact h.p y hy
    · have : y = x := by simpa using hy
      rw [this]
      exact hp
theorem Mk.full {n : Nat} {up : Nat → Option Nat} (hup : ∀ i j, up i = some j → i < n ∧ j < n) (hinj : ∀ i i' j, up i = some j → up i' = some j → i = i') {row : Nat} {S0 add : List Nat} (h : Mk n up row S0 add) (hrow : row ∈ add)
    (hS0 : ∀ i j, up i = some j → (i ∈ S0 ↔ j ∈ S0)) (c1 : ∀ x ∈ add, ∀ y, up x = some y → y ∈ S0 ∨ y ∈ add)
    (c2 : ∀ k x, up k = some x → (x ∈ S0 ∨ x ∈ add) → (∃ m, ups up m k = some row) → (k ∈ S0 ∨ k ∈ add)) : ∀ x, x ∈ add ↔ Cn up row x := by
  have hrs : row ∉ S0 := h.new row hrow
  have chain : ∀ m x, ups up m row = some x → x ∈ add := by
    intro m
    induction m with
    | zero => intro x hx; simp [ups] at hx; rw [← hx]; exact hrow
    | succ m ih =>
      intro x hx
      rw [ups_succ] at hx
      obtain ⟨z, hz, hzx⟩ := Option.bind_eq_some_iff.mp hx
      have hza := ih z hz
      rcases c1 z hza x hzx with k | k
      · exact absurd ((hS0 z x hzx).mpr k) (h.new z hza)
      · exact k
  have closed : ∀ i j, up i = some j → ((i ∈ S0 ∨ i ∈ add) ↔ (j ∈ S0 ∨ j ∈ add)) := by
    intro i j e
    constructor
    · rintro (k | k)
      · exact .inl ((hS0 i j e).mp k)
      · exact c1 i k j e
    · rintro (k | k)
      · exact .inl ((hS0 i j e).mpr k)
      · rcases h.p j k with ⟨m, hm⟩ | ⟨m, hm⟩
        · cases m with
          | zero =>
            simp [ups] at hm
            subst hm
            exact c2 i _ e (.inr k) ⟨1, by simp [ups, e]⟩
          | succ m =>
            rw [ups_succ] at hm
            obtain ⟨z, hz, hzj⟩ := Option.bind_eq_some_iff.mp hm
            have := hinj i z j e hzj
            subst this
            exact .inr (chain m _ hz)
        · exact c2 i j e (.inr k) ⟨m + 1, by simp [ups, e, hm]⟩
  intro x
  constructor
  · exact fun hx => h.cn hx
  · intro hc
    have h1 := (Cn.closed (S := fun z => z ∈ S0 ∨ z ∈ add) closed hc).mp (.inr hrow)
    rcases h1 with h1 | h1
    · exact absurd ((Cn.closed (S := fun z => z ∈ S0) hS0 hc).mpr h1) hrs
    · exact h1
end Go.Proofs.Ytoijcallajegfaa.M
end
section
/- Half turns: the tests of the program and of the reference come to one plain test. No conditions. -/
namespace Go.Proofs.Ytoijcallajegfaa.M
set_option linter.unusedVariables false
set_option linter.unusedSimpArgs false
open Go.RowKit Go.Proofs.YtoijcallajegfaaW.PrintWords Go.Proofs.YtoijcallajegfaaW.PrintLast Go.Proofs.YtoijcallajegfaaW.PrintMore Go.Proofs.Ytoijcallajegfaa.A
def Turn (r u a : List Nat) : Prop := ∀ i, i < a.length → g a (g r i) = ix r (g a i) ∧ g a (g u i) = ix u (g a i)
instance (r u a : List Nat) : Decidable (Turn r u a) := by unfold Turn; infer_instance
end Go.Proofs.Ytoijcallajegfaa.M
end
section
/- Half turns as the program makes them. No conditions. -/
namespace Go.Proofs.Ytoijcallajegfaa.M
set_option linter.unusedVariables false
set_option linter.unusedSimpArgs false
open Go.RowKit Go.Proofs.YtoijcallajegfaaW.PrintWords Go.Proofs.YtoijcallajegfaaW.PrintLast Go.Proofs.YtoijcallajegfaaW.PrintMore Go.Proofs.Ytoijcallajegfaa.A
structure TurnP (r u b : List Nat) : Prop where
  len : b.length = r.length
  p : IsP b
  t : Turn r u b
theorem ix_inj {p : List Nat} (hp : IsP p) {x y : Nat} (hx : x < p.length) (hy : y < p.length) (h : ix p x = ix p y) : x = y := by
  rw [← g_ix hp hx, ← g_ix hp hy, h]
structure FI (r u : List Nat) (im : Nat) (out : List Nat) (f : Nat → Nat) : Prop where
  lt : ∀ x ∈ out, f x < r.length
  z : f 0 = im
  z0 : 0 ∈ out
  t : ∀ b, TurnP r u b → g b 0 = im → ∀ x ∈ out, f x = g b x
theorem FI.add {r u : List Nat} {im : Nat} {out : List Nat} {f : Nat → Nat} (h : FI r u im out f) {y v : Nat} (hy : y ∉ out) (hv : v < r.length) (ht : ∀ b, TurnP r u b → g b 0 = im → v = g b y) : FI r u im (out ++ [y]) (fun z => if z = y then v else f z) := by
  have h0 : (0 : Nat) ≠ y := fun e => hy (e ▸ h.z0)
  refine ⟨fun x hx => ?_, by simp [h0, h.z], by simp [h.z0], fun b hb hb0 x hx => ?_⟩
  · by_cases e : x = y
    · simp [e, hv]
    · rcases List.mem_append.mp hx with hx | hx
      · simp [e, h.lt x hx]
      · exact absurd (by simpa using hx) e
  · by_cases e : x = y
    · subst e
      simp [ht b hb hb0]
    · rcases List.mem_append.mp hx with hx | hx
      · simp [e, h.t b hb hb0 x hx]
      · exact absurd (by simpa using hx) e
end Go.Proofs.Ytoijcallajegfaa.M
end
section
/- Half turns: the program and the reference find the same ones. No conditions. -/
namespace Go.Proofs.Ytoijcallajegfaa.M
set_option linter.unusedVariables false
set_option linter.unusedSimpArgs false
open Go.RowKit Go.Proofs.YtoijcallajegfaaW.PrintWords Go.Proofs.YtoijcallajegfaaW.PrintLast Go.Proofs.YtoijcallajegfaaW.PrintMore Go.Proofs.Ytoijcallajegfaa.A
def Led (r u out : List Nat) (a : Nat) : Prop := ∀ i, i < out.length → 0 < i → ∃ j, j < i ∧ j < a ∧ (g out i = g r (g out j) ∨ g out i = g u (g out j))
theorem g_app {out : List Nat} {x i : Nat} (h : i < out.length) : g (out ++ [x]) i = g out i := by
  unfold g
  rw [List.getD_eq_getElem?_getD, List.getD_eq_getElem?_getD, List.getElem?_append_left h]
theorem g_last (out : List Nat) (x : Nat) : g (out ++ [x]) out.length = x := getD_mid out x [] 0
theorem Led.st {r u out : List Nat} {a y : Nat} (h : Led r u out (a + 1)) (ha : a < out.length) (hy : y = g r (g out a) ∨ y = g u (g out a)) : Led r u (st1 out y) (a + 1) := by
  unfold st1
  split
  · exact h
  · intro i hi h0
    by_cases e : i < out.length
    · obtain ⟨j, j1, j2, j3⟩ := h i e h0
      refine ⟨j, j1, j2, ?_⟩
      rw [g_app e, g_app (by omega)]
      exact j3
    · have e2 : i = out.length := by simp at hi; omega
      subst e2
      refine ⟨a, ha, by omega, ?_⟩
      rw [g_last, g_app ha]
      exact hy
inductive Given (r u L : List Nat) (i : Nat) : Nat → Prop
  | z : Given r u L i 0
  | r (j : Nat) : j < i → Given r u L i (g r (g L j))
  | u (j : Nat) : j < i → Given r u L i (g u (g L j))
theorem Given.mono {r u L : List Nat} {i x : Nat} (h : Given r u L i x) : Given r u L (i + 1) x := by
  cases h with
  | z => exact .z
  | r j hj => exact .r j (by omega)
  | u j hj => exact .u j (by omega)
structure GI (r u : List Nat) (im : Nat) (i : Nat) (c : List Nat) : Prop where
  len : c.length = r.length
  lt : ∀ x, x < r.length → g c x < r.length
  t : ∀ b, TurnP r u b → g b 0 = im → ∀ x, Given r u (reach r u 0) i x → g c x = g b x
  n : ∀ b, TurnP r u b → g b 0 ≠ im → ∀ x, Given r u (reach r u 0) i x → g c x ≠ g b x
theorem GI.put {r u : List Nat} (hs : Sf r u) {p : List Nat} (hp : p = r ∨ p = u) {im : Nat} {c : List Nat} (P : Nat → Prop) (h1 : c.length = r.length) (h2 : ∀ x, x < r.length → g c x < r.length) (ht : ∀ b, TurnP r u b → g b 0 = im → ∀ x, P x → g c x = g b x) (hn : ∀ b, TurnP r u b → g b 0 ≠ im → ∀ x, P x → g c x ≠ g b x) {x : Nat} (hx : x < r.length) (hP : P x) :
    (c.set (g p x) (ix p (g c x))).length = r.length ∧ (∀ z, z < r.length → g (c.set (g p x) (ix p (g c x))) z < r.length) ∧ (∀ b, TurnP r u b → g b 0 = im → ∀ z, (P z ∨ z = g p x) → g (c.set (g p x) (ix p (g c x))) z = g b z) ∧ (∀ b, TurnP r u b → g b 0 ≠ im → ∀ z, (P z ∨ z = g p x) → g (c.set (g p x) (ix p (g c x))) z ≠ g b z) := by
  have heq := hs.eq
  have ipp : IsP p := by rcases hp with rfl | rfl; exact hs.pr; exact hs.pu
  have hpl : p.length = r.length := by rcases hp with rfl | rfl; rfl; exact heq
  have gx := g_lt ipp (i := x) (by omega)
  have cx := h2 x hx
  have hv := ix_lt ipp (x := g c x) (by omega)
  have tp : ∀ b, TurnP r u b → g b (g p x) = ix p (g b x) := fun b hb => by
    have := hb.t x (by rw [hb.len]; exact hx)
    rcases hp with rfl | rfl
    · exact this.1
    · exact this.2
  refine ⟨by rw [List.length_set]; exact h1, fun z hz => ?_, fun b hb hb0 z hz => ?_, fun b hb hb0 z hz => ?_⟩
  · rw [g_set (by omega)]
    split
    · omega
    · exact h2 z hz
  · rw [g_set (by omega)]
    by_cases e : g p x = z
    · rw [if_pos e, ← e, tp b hb, ht b hb hb0 x hP]
    · rw [if_neg e]
      rcases hz with hz | hz
      · exact ht b hb hb0 z hz
      · exact absurd hz.symm e
  · rw [g_set (by omega)]
    by_cases e : g p x = z
    · rw [if_pos e, ← e, tp b hb]
      intro h
      exact hn b hb hb0 x hP (ix_inj ipp (by omega) (by have := g_lt hb.p (i := x) (by rw [hb.len]; exact hx); rw [hb.len] at this; omega) h)
    · rw [if_neg e]
      rcases hz with hz | hz
      · exact hn b hb hb0 z hz
      · exact absurd hz.symm e
end Go.Proofs.Ytoijcallajegfaa.M
end
section
/- Fixed points: the program and the reference answer alike. No conditions. -/
namespace Go.Proofs.Ytoijcallajegfaa.M
set_option linter.unusedVariables false
set_option linter.unusedSimpArgs false
open Go.RowKit Go.Proofs.YtoijcallajegfaaW.PrintWords Go.Proofs.YtoijcallajegfaaW.PrintLast Go.Proofs.YtoijcallajegfaaW.PrintMore Go.Proofs.Ytoijcallajegfaa.A
theorem impl_corners {r u : List Nat} (hs : Sf r u) : Ev (fun k => impl_CornersOf.f k (I r) (I u)) (I2 (cycles (arnd r u))) := by
  unfold impl_CornersOf.f
  refine Ev.bind (impl_surf _ _) ?_
  rw [surfB_I.mpr hs]
  simp only [if_true]
  exact Ev.bind (impl_around hs) (Ev.bind (impl_cycles (isP_arnd hs) (by rw [arnd_len]; exact hs.le)) (Ev.now _))
end Go.Proofs.Ytoijcallajegfaa.M
end
section
/- The genus of a quotient: the program and the reference answer alike. No conditions. -/
namespace Go.Proofs.Ytoijcallajegfaa.M
set_option linter.unusedVariables false
set_option linter.unusedSimpArgs false
open Go.RowKit Go.Proofs.YtoijcallajegfaaW.PrintWords Go.Proofs.YtoijcallajegfaaW.PrintLast Go.Proofs.YtoijcallajegfaaW.PrintMore Go.Proofs.Ytoijcallajegfaa.A
def genusI (n c : Nat) : Int := wrap64 (1 + (wrap64 (Int.tdiv (wrap64 ((n : Int) - (c : Int))) 2)))
end Go.Proofs.Ytoijcallajegfaa.M
end
section
/- Numbers drawn out of a code. No conditions. -/
namespace Go.Proofs.Ytoijcallajegfaa.M
set_option linter.unusedVariables false
set_option linter.unusedSimpArgs false
open Go.RowKit Go.Proofs.YtoijcallajegfaaW.PrintWords Go.Proofs.YtoijcallajegfaaW.PrintLast Go.Proofs.YtoijcallajegfaaW.PrintMore Go.Proofs.Ytoijcallajegfaa.A
theorem and255 (n : Int) : Go.bits .and .i64 n 255 = n % 256 := by
  have h : (BitVec.ofInt 64 255).toNat = 2 ^ 8 - 1 := by decide
  have key : (BitVec.ofInt 64 n &&& BitVec.ofInt 64 255).toNat = (n % ((2 ^ 64 : Nat) : Int)).toNat % 2 ^ 8 := by
    rw [BitVec.toNat_and, BitVec.toNat_ofInt, h, Nat.and_two_pow_sub_one_eq_mod]
  show IntKind.i64.wrap ((BitVec.ofInt 64 n &&& BitVec.ofInt 64 255).toNat : Nat) = n % 256
  rw [key, IntKind.wrap_i64]
  omega
theorem byte_draw (b : List Int) (i h : Int) (hi : 0 ≤ i) (hl : i ≤ b.length) (hb : b.length ≤ 1000000000) : ∃ x i' h', spec_l01Byte.f b i h = some (x, i', h') ∧ 0 ≤ x ∧ x ≤ 255 ∧ 0 ≤ i' ∧ i' ≤ b.length := by
  unfold spec_l01Byte.f
  by_cases c : i < (b.length : Int)
  · have e : wrap64 (i + 1) = i + 1 := w64 (by omega) (by omega)
    simp only [c, hi, if_true, and255, e]
    exact ⟨_, _, _, rfl, by omega, by omega, by omega, by omega⟩
  · simp only [c, if_false, and255]
    exact ⟨_, _, _, rfl, by omega, by omega, by omega, by omega⟩
theorem below_draw (b : List Int) (i h a : Int) (hi : 0 ≤ i) (hl : i ≤ b.length) (hb : b.length ≤ 1000000000) (h0 : 0 < a) (h1 : a ≤ 256) : ∃ x i' h', spec_l01Below.f b i h a = some (x, i', h') ∧ 0 ≤ x ∧ x < a ∧ 0 ≤ i' ∧ i' ≤ b.length := by
  obtain ⟨x, i', h', e, x0, x1, j0, j1⟩ := byte_draw b i h hi hl hb
  unfold spec_l01Below.f
  have c1 : ¬ a ≤ 0 := by omega
  have c2 : ¬ a = 0 := by omega
  simp only [c1, h1, e, c2, if_true, if_false, Option.bind_some]
  refine ⟨_, _, _, rfl, ?_, ?_, j0, j1⟩
  · rw [Int.tmod_eq_emod_of_nonneg x0]
    exact Int.emod_nonneg _ c2
  · rw [Int.tmod_eq_emod_of_nonneg x0]
    exact Int.emod_lt_of_pos _ h0
theorem new_draw (b : List Int) (hb : b.length ≤ 1000000000) : ∃ h, Ev (fun k => spec_l01New.f k b) (b, 0, h) := by
  unfold spec_l01New.f
  have H : ∀ (d i : Nat) (x : Int), i + d = b.length → ∃ h, Ev (fun k => spec_l01New.l0 k b x (i : Int)) (b, 0, h) := by
    intro d
    induction d with
    | zero =>
      intro i x hi
      refine ⟨x, ev_succ ?_⟩
      have c1 : ¬ ((i : Int) < (b.length : Int)) := by omega
      simp only [spec_l01New.l0, c1, if_false]
      exact Ev.now _
    | succ d ih =>
      intro i x hi
      have c1 : (i : Int) < (b.length : Int) := by omega
      have c2 : (0 : Int) ≤ (i : Int) := by omega
      have c3 := w64s i (by omega)
      by_cases c4 : (i : Int) < 4000
      · obtain ⟨h, e⟩ := ih (i + 1) (Go.bits .and .i64 (wrap64 ((wrap64 ((wrap64 (x * 109)) + (wrap64 (rd b (i : Int))))) + 7)) 1073741823) (by omega)
        refine ⟨h, ev_succ ?_⟩
        simp only [spec_l01New.l0, c1, c2, c3, c4, if_true]
        exact e
      · refine ⟨x, ev_succ ?_⟩
        simp only [spec_l01New.l0, c1, c4, if_true, if_false]
        exact Ev.now _
  exact H b.length 0 _ (by omega)
theorem skip_draw (b : List Int) (hb : b.length ≤ 1000000000) (n : Nat) (hn : n ≤ 1000) : ∃ i h, 0 ≤ i ∧ i ≤ (b.length : Int) ∧ Ev (fun k => spec_l20New.f k b (n : Int)) (b, i, h) := by
  unfold spec_l20New.f
  obtain ⟨h0, e0⟩ := new_draw b hb
  have H : ∀ (d j : Nat) (i h : Int), j + d = n → 0 ≤ i → i ≤ (b.length : Int) → ∃ i' h', 0 ≤ i' ∧ i' ≤ (b.length : Int) ∧ Ev (fun k => spec_l20New.l0 k b i h (n : Int) (j : Int)) (b, i', h') := by
    intro d
    induction d with
    | zero =>
      intro j i h hj i0 i1
      obtain rfl : j = n := by omega
      refine ⟨i, h, i0, i1, ev_succ ?_⟩
      have c1 : ¬ ((j : Int) < (j : Int)) := by omega
      simp only [spec_l20New.l0, c1, if_false]
      exact Ev.now _
    | succ d ih =>
      intro j i h hj i0 i1
      obtain ⟨x, i', h', e, _, _, j0, j1⟩ := byte_draw b i h i0 i1 hb
      obtain ⟨i2, h2, k0, k1, k2⟩ := ih (j + 1) i' h' (by omega) j0 j1
      refine ⟨i2, h2, k0, k1, ev_succ ?_⟩
      have c1 : (j : Int) < (n : Int) := by omega
      have c3 := w64s j (by omega)
      simp only [spec_l20New.l0, c1, e, c3, if_true, Option.bind_some]
      exact k2
  obtain ⟨i, h, i0, i1, e1⟩ := H n 0 0 h0 (by omega) (by omega) (by omega)
  exact ⟨i, h, i0, i1, Ev.bind e0 e1⟩
end Go.Proofs.Ytoijcallajegfaa.M
end
section
/- Drawn surfaces. No conditions. -/
namespace Go.Proofs.Ytoijcallajegfaa.M
set_option linter.unusedVariables false
set_option linter.unusedSimpArgs false
open Go.RowKit Go.Proofs.YtoijcallajegfaaW.PrintWords Go.Proofs.YtoijcallajegfaaW.PrintLast Go.Proofs.YtoijcallajegfaaW.PrintMore Go.Proofs.Ytoijcallajegfaa.A
theorem perm_draw (b : List Int) (hb : b.length ≤ 1000000000) (n : Nat) (hn : n ≤ 100) (i h : Int) (hi : 0 ≤ i) (hl : i ≤ b.length) : ∃ l i' h', l.length = n ∧ 0 ≤ i' ∧ i' ≤ (b.length : Int) ∧ Ev (fun k => spec_l02Draw.f k b i h (n : Int)) (l, i', h') := by
  unfold spec_l02Draw.f
  have H : ∀ (d j : Nat) (l : List Int) (i h : Int), j + d = n → l.length = j → 0 ≤ i → i ≤ (b.length : Int) → ∃ l' i' h', l'.length = n ∧ 0 ≤ i' ∧ i' ≤ (b.length : Int) ∧ Ev (fun k => spec_l02Draw.l0 k (n : Int) l (j : Int) b i h) (l', i', h') := by
    intro d
    induction d with
    | zero =>
      intro j l i h hj hl i0 i1
      obtain rfl : j = n := by omega
      refine ⟨l, i, h, hl, i0, i1, ev_succ ?_⟩
      have c1 : ¬ ((j : Int) < (j : Int)) := by omega
      simp only [spec_l02Draw.l0, c1, if_false]
      exact Ev.now _
    | succ d ih =>
      intro j l i h hj hl i0 i1
      obtain ⟨x, i', h', e, x0, x1, j0, j1⟩ := below_draw b i h ((j + 1 : Nat) : Int) i0 i1 hb (by omega) (by omega)
      have hlen : (l ++ [(j : Int)]).length = j + 1 := by simp [hl]
      obtain ⟨l2, i2, h2, k0, k1, k2, k3⟩ := ih (j + 1) (((l ++ [(j : Int)]).set ((j : Int)).toNat (rd (l ++ [(j : Int)]) x)).set x.toNat (j : Int)) i' h' (by omega) (by rw [List.length_set, List.length_set, hlen]) j0 j1
      refine ⟨l2, i2, h2, k0, k1, k2, ev_succ ?_⟩
      have c1 : (j : Int) < (n : Int) := by omega
      have c2 : l.length < 17592186044416 := by omega
      have c4 : x < ((l ++ [(j : Int)]).length : Int) := by rw [hlen]; exact x1
      have c5 : (0 : Int) ≤ (j : Int) := by omega
      have c6 : (j : Int) < ((l ++ [(j : Int)]).length : Int) := by rw [hlen]; omega
      have c3 := w64s j (by omega)
      simp only [spec_l02Draw.l0, c1, c2, c3, e, x0, c4, c5, c6, if_true, Option.bind_some]
      exact k3
  exact H n 0 [] i h (by omega) rfl hi hl
end Go.Proofs.Ytoijcallajegfaa.M
end
section
/- What words keep: the program's answers. No conditions. -/
namespace Go.Proofs.Ytoijcallajegfaa.M
set_option linter.unusedVariables false
set_option linter.unusedSimpArgs false
open Go.RowKit Go.Proofs.YtoijcallajegfaaW.PrintWords Go.Proofs.YtoijcallajegfaaW.PrintLast Go.Proofs.YtoijcallajegfaaW.PrintMore Go.Proofs.Ytoijcallajegfaa.A
def angL (s : List Nat × List Nat) : List Nat := sortD ((cycles (arnd s.1 s.2)).map List.length)
theorem angL_len (s : List Nat × List Nat) : (angL s).length = (cycles (arnd s.1 s.2)).length := by unfold angL; rw [sortD_len, List.length_map]
theorem ang_le {s : List Nat × List Nat} (hs : Sf s.1 s.2) : ∀ x ∈ (cycles (arnd s.1 s.2)).map List.length, x ≤ 24 := by
  intro x hx
  obtain ⟨c, hc, rfl⟩ := List.mem_map.mp hx
  exact cycle_len (isP_arnd hs) (by rw [arnd_len]; exact hs.le) c hc
theorem impl_angles {s : List Nat × List Nat} (hs : Sf s.1 s.2) : Ev (fun k => impl_AnglesOf.f k (I s.1) (I s.2)) (I (angL s)) := by
  have h24 := cycles_len (p := arnd s.1 s.2) (by rw [arnd_len]; exact hs.le)
  have hle := ang_le hs
  unfold impl_AnglesOf.f angL
  refine Ev.bind (impl_corners hs) ?_
  generalize cycles (arnd s.1 s.2) = C at h24 hle
  have H : ∀ d j : Nat, j + d = C.length → Ev (fun k => impl_AnglesOf.l0 k (I ((C.take j).map List.length)) (I2 C) (C.length : Int) (j : Int)) (I (sortD (C.map List.length))) := by
    intro d
    induction d with
    | zero =>
      intro j hj
      obtain rfl : j = C.length := by omega
      refine ev_succ ?_
      have c1 : ¬ ((C.length : Int) < (C.length : Int)) := by omega
      have e : slices_SortFunc_int_int_73.f (I (C.map List.length)) = some (I (sortD (C.map List.length))) := by
        unfold slices_SortFunc_int_int_73.f
        have e1 : (I (C.map List.length)).map Int.toNat = C.map List.length := N_I _
        have e2 : ∀ x ∈ I (C.map List.length), 0 ≤ x ∧ x ≤ 4611686018427387904 := by
          intro x hx
          obtain ⟨y, hy, rfl⟩ := List.mem_map.mp hx
          have := hle y hy
          show 0 ≤ (y : Int) ∧ (y : Int) ≤ 4611686018427387904
          omega
        rw [if_pos ⟨e2, by rw [I_len, List.length_map]; omega⟩, e1]
        rfl
      simp only [impl_AnglesOf.l0, c1, if_false, List.take_length, e, Option.bind_some]
      exact Ev.now _
    | succ d ih =>
      intro j hj
      have hjl : j < C.length := by omega
      have c1 : (j : Int) < (C.length : Int) := by omega
      have c2 : (0 : Int) ≤ (j : Int) := by omega
      have c4 : rd_L5 (I2 C) (j : Int) = I (C[j]) := rdL_I2 C j hjl
      have c5 : (I ((C.take j).map List.length)).length < 17592186044416 := by rw [I_len, List.length_map, List.length_take]; omega
      have c6 : I ((C.take j).map List.length) ++ [((C[j].length : Nat) : Int)] = I ((C.take (j + 1)).map List.length) := by
        rw [I_snoc, ← List.take_append_getElem hjl, List.map_append]
        rfl
      have c3 := w64s j (by omega)
      refine ev_succ ?_
      simp only [impl_AnglesOf.l0, c1, c2, c3, c4, c5, c6, I2_len, I_len', if_true]
      exact ih (j + 1) (by omega)
  have key := H C.length 0 (Nat.zero_add _)
  rw [← I2_len C] at key
  exact key
theorem impl_genus {r u : List Nat} (hs : Sf r u) : Ev (fun k => impl_GenusOf.f k (I r) (I u)) (genusI r.length (cycles (arnd r u)).length) := by
  unfold impl_GenusOf.f
  have h0 := surfB_I.mpr hs
  refine Ev.bind (impl_surf _ _) ?_
  simp only [h0, if_true]
  refine Ev.bind (count_sq hs) (Ev.bind (impl_corners hs) ?_)
  rw [I2_len]
  exact Ev.now _
def strL (s : List Nat × List Nat) : List Nat := ((angL s).filter (fun a => decide (1 < a))).map (fun a => a - 1)
theorem impl_strat {s : List Nat × List Nat} (hs : Sf s.1 s.2) : Ev (fun k => impl_StratumOf.f k (I s.1) (I s.2)) (I (strL s)) := by
  have h24 := cycles_len (p := arnd s.1 s.2) (by rw [arnd_len]; exact hs.le)
  rw [← angL_len] at h24
  have hle : ∀ x ∈ angL s, x ≤ 24 := fun x hx => ang_le hs x ((sortD_perm _).mem_iff.mp hx)
  unfold impl_StratumOf.f strL
  refine Ev.bind (impl_angles hs) ?_
  generalize angL s = C at h24 hle
  have H : ∀ d j : Nat, j + d = C.length → Ev (fun k => impl_StratumOf.l0 k (I (((C.take j).filter (fun a => decide (1 < a))).map (fun a => a - 1))) (I C) (C.length : Int) (j : Int)) (I ((C.filter (fun a => decide (1 < a))).map (fun a => a - 1))) := by
    intro d
    induction d with
    | zero =>
      intro j hj
      obtain rfl : j = C.length := by omega
      refine ev_succ ?_
      have c1 : ¬ ((C.length : Int) < (C.length : Int)) := by omega
      simp only [impl_StratumOf.l0, c1, if_false, List.take_length]
      exact Ev.now _
    | succ d ih =>
      intro j hj
      have hjl : j < C.length := by omega
      have hm := hle _ (g_mem hjl)
      have c1 : (j : Int) < (C.length : Int) := by omega
      have c2 : (0 : Int) ≤ (j : Int) := by omega
      have c5 : (I (((C.take j).filter (fun a => decide (1 < a))).map (fun a => a - 1))).length < 17592186044416 := by
        rw [I_len, List.length_map]
        have := List.length_filter_le (fun a => decide (1 < a)) (C.take j)
        rw [List.length_take] at this
        omega
      have c3 := w64s j (by omega)
      have e0 : C.take (j + 1) = C.take j ++ [g C j] := by rw [g_get hjl, List.take_append_getElem hjl]
      have key := ih (j + 1) (by omega)
      rw [e0, List.filter_append, List.map_append] at key
      refine ev_succ ?_
      by_cases h : 1 < g C j
      · have h' : ((g C j : Nat) : Int) > 1 := by omega
        have c6 : wrap64 (((g C j : Nat) : Int) - 1) = ((g C j - 1 : Nat) : Int) := by rw [w64 (by omega) (by omega)]; omega
        have e1 : ([g C j].filter (fun a => decide (1 < a))).map (fun a => a - 1) = [g C j - 1] := by simp [h]
        rw [e1] at key
        simp only [impl_StratumOf.l0, c1, c2, c3, c5, c6, rdI, I_len', I_snoc, h', if_true]
        exact key
      · have h' : ¬ ((g C j : Nat) : Int) > 1 := by omega
        have e1 : ([g C j].filter (fun a => decide (1 < a))).map (fun a => a - 1) = [] := by simp [h]
        rw [e1, List.append_nil] at key
        simp only [impl_StratumOf.l0, c1, c2, c3, rdI, I_len', h', if_true, if_false]
        exact key
  have key := H C.length 0 (Nat.zero_add _)
  rw [← I_len C] at key
  exact key
structure Alike (s t : List Nat × List Nat) : Prop where
  sf : Sf t.1 t.2
  len : t.1.length = s.1.length
  sym : symN t = symN s
  turn : ledN t (neg t) 0 = ledN s (neg s) 0
  ang : angL t = angL s
end Go.Proofs.Ytoijcallajegfaa.M
end
section
/- The surfaces of a stratum: the program and the reference find the same ones. No conditions. -/
namespace Go.Proofs.Ytoijcallajegfaa.M
set_option linter.unusedVariables false
set_option linter.unusedSimpArgs false
open Go.RowKit Go.Proofs.YtoijcallajegfaaW.PrintWords Go.Proofs.YtoijcallajegfaaW.PrintLast Go.Proofs.YtoijcallajegfaaW.PrintMore Go.Proofs.Ytoijcallajegfaa.A
theorem rd_getI {l : List Int} {i : Nat} (h : i < l.length) : rd l (i : Int) = l[i] := by
  unfold rd
  rw [Int.toNat_natCast, List.getD_eq_getElem?_getD, List.getElem?_eq_getElem h]
  rfl
theorem equal_int (a b : List Int) (h : a.length ≤ 1000000000) : Ev (fun k => impl_SameList.f k a b) (decide (a = b)) := by
  unfold impl_SameList.f slices_Equal_int_int.f
  refine Ev.bind (a := decide (a = b)) ?_ (Ev.now _)
  by_cases hl : (a.length : Int) = (b.length : Int)
  · have hl' : a.length = b.length := by omega
    simp only [hl, if_true]
    have H : ∀ d i : Nat, i + d = a.length → Ev (fun k => slices_Equal_int_int.l0 k a b (b.length : Int) (i : Int)) (decide (a.drop i = b.drop i)) := by
      intro d
      induction d with
      | zero =>
        intro i hi
        refine ev_succ ?_
        have c1 : ¬ ((i : Int) < (b.length : Int)) := by omega
        have e : decide (a.drop i = b.drop i) = true := by rw [List.drop_of_length_le (by omega), List.drop_of_length_le (by omega)]; simp
        simp only [slices_Equal_int_int.l0, c1, if_false, e]
        exact Ev.now _
      | succ d ih =>
        intro i hi
        have hia : i < a.length := by omega
        have hib : i < b.length := by omega
        rw [List.drop_eq_getElem_cons hia, ← rd_getI hia, List.drop_eq_getElem_cons hib, ← rd_getI hib]
        have c1 : (i : Int) < (b.length : Int) := by omega
        have c2 : (0 : Int) ≤ (i : Int) := by omega
        have c4 : (i : Int) < (a.length : Int) := by omega
        have c3 := w64s i (by omega)
        refine ev_succ ?_
        by_cases he : rd a (i : Int) = rd b (i : Int)
        · have z : rd a (i : Int) = rd b (i : Int) := he
          have e : decide (rd a (i : Int) :: a.drop (i + 1) = rd b (i : Int) :: b.drop (i + 1)) = decide (a.drop (i + 1) = b.drop (i + 1)) := by simp [he]
          rw [e]
          simp only [slices_Equal_int_int.l0, c1, c2, c3, c4, z, if_true]
          exact ih (i + 1) (by omega)
        · have z : ¬ (rd a (i : Int) = rd b (i : Int)) := he
          have e : decide (rd a (i : Int) :: a.drop (i + 1) = rd b (i : Int) :: b.drop (i + 1)) = false := by simp [he]
          rw [e]
          simp only [slices_Equal_int_int.l0, c1, c2, c4, z, if_true, if_false]
          exact Ev.now _
    have key := H a.length 0 (Nat.zero_add _)
    rw [List.drop_zero, List.drop_zero] at key
    exact key
  · have e : decide (a = b) = false := by
      rw [decide_eq_false_iff_not]
      intro e
      rw [e] at hl
      exact hl rfl
    simp only [hl, if_false, e]
    exact Ev.now _
def tabN : Nat → List (List Nat × List Nat)
  | 1 => [([0], [0])]
  | 2 => [([0, 1], [1, 0]), ([1, 0], [0, 1]), ([1, 0], [1, 0])]
  | 3 => [([0, 1, 2], [1, 2, 0]), ([0, 2, 1], [1, 0, 2]), ([0, 2, 1], [1, 2, 0]), ([1, 2, 0], [0, 1, 2]), ([1, 2, 0], [0, 2, 1]), ([1, 2, 0], [1, 2, 0]), ([1, 2, 0], [2, 0, 1])]
  | 4 => [([0, 1, 2, 3], [1, 2, 3, 0]), ([0, 1, 3, 2], [1, 2, 0, 3]), ([0, 1, 3, 2], [1, 2, 3, 0]), ([0, 2, 1, 3], [1, 0, 3, 2]), ([0, 2, 1, 3], [1, 3, 0, 2]), ([0, 2, 3, 1], [1, 0, 2, 3]), ([0, 2, 3, 1], [1, 0, 3, 2]), ([0, 2, 3, 1], [1, 2, 0, 3]), ([0, 2, 3, 1], [1, 2, 3, 0]), ([0, 2, 3, 1], [1, 3, 0, 2]), ([0, 2, 3, 1], [1, 3, 2, 0]), ([1, 0, 3, 2], [0, 2, 1, 3]), ([1, 0, 3, 2], [0, 2, 3, 1]), ([1, 0, 3, 2], [1, 2, 3, 0]), ([1, 0, 3, 2], [2, 3, 0, 1]), ([1, 0, 3, 2], [2, 3, 1, 0]), ([1, 2, 3, 0], [0, 1, 2, 3]), ([1, 2, 3, 0], [0, 1, 3, 2]), ([1, 2, 3, 0], [0, 2, 3, 1]), ([1, 2, 3, 0], [0, 3, 1, 2]), ([1, 2, 3, 0], [0, 3, 2, 1]), ([1, 2, 3, 0], [1, 0, 3, 2]), ([1, 2, 3, 0], [1, 2, 3, 0]), ([1, 2, 3, 0], [1, 3, 0, 2]), ([1, 2, 3, 0], [2, 3, 0, 1]), ([1, 3, 0, 2], [2, 0, 3, 1])]
  | _ => []
theorem surf_tab3 : surfN 1 = tabN 1 ∧ surfN 2 = tabN 2 ∧ surfN 3 = tabN 3 := by decide +kernel
theorem surf_tab4 : surfN 4 = tabN 4 := by decide +kernel
theorem surf_tab {n : Nat} (h1 : 1 ≤ n) (h4 : n ≤ 4) : surfN n = tabN n := by
  rcases four_cases h1 h4 with rfl | rfl | rfl | rfl
  · exact surf_tab3.1
  · exact surf_tab3.2.1
  · exact surf_tab3.2.2
  · exact surf_tab4
theorem tab_ok : ∀ n : Fin 5, (tabN n.val).length ≤ 26 ∧ ∀ s ∈ tabN n.val, surfB (I s.1) (I s.2) = true := by decide +kernel
theorem tabN_ok {n : Nat} (h4 : n ≤ 4) : (tabN n).length ≤ 26 ∧ ∀ s ∈ tabN n, Sf s.1 s.2 := by
  obtain ⟨a, b⟩ := tab_ok ⟨n, by omega⟩
  exact ⟨a, fun s hs => surfB_I.1 (b s hs)⟩
def inStr (l : List (List Nat × List Nat)) (x : List Int) : List (List Nat × List Nat) := l.filter (fun s => decide (I (strL s) = x))
theorem strL_le {s : List Nat × List Nat} (hs : Sf s.1 s.2) : (strL s).length ≤ 24 := by
  unfold strL
  rw [List.length_map]
  refine Nat.le_trans (List.length_filter_le _ _) ?_
  rw [angL_len]
  exact cycles_len (p := arnd s.1 s.2) (by rw [arnd_len]; exact hs.le)
theorem impl_in_loop (x : List Int) (l : List (List Nat × List Nat)) (hl : l.length ≤ 1000) (hs : ∀ s ∈ l, Sf s.1 s.2) : ∀ (rest pre : List (List Nat × List Nat)), pre ++ rest = l → Ev (fun k => impl_SurfacesIn.l0 k x (LS (inStr pre x)) (LS l) ((LS l).length : Int) (pre.length : Int)) (LS (inStr l x)) := by
  intro rest
  induction rest with
  | nil =>
    intro pre e
    rw [List.append_nil] at e
    subst e
    refine ev_succ ?_
    have d1 : ¬ ((pre.length : Int) < ((LS pre).length : Int)) := by rw [LS_len]; omega
    simp only [impl_SurfacesIn.l0, d1, if_false]
    exact Ev.now _
  | cons s rest ih =>
    intro pre e
    have hlen : l.length = pre.length + (rest.length + 1) := by rw [← e]; simp
    have h0 := hs s (by rw [← e]; simp)
    refine ev_succ ?_
    have d1 : ((pre.length : Int) < ((LS l).length : Int)) := by rw [LS_len]; omega
    have d2 : (0 : Int) ≤ (pre.length : Int) := by omega
    have d3 := w64s pre.length (by omega)
    have d4 : rd_T33 (LS l) (pre.length : Int) = ⟨I s.1, I s.2⟩ := by rw [← e]; exact LS_mid pre s rest
    have e3 : ((pre ++ [s]).length : Int) = ((pre.length + 1 : Nat) : Int) := by simp
    have e4 : inStr (pre ++ [s]) x = inStr pre x ++ inStr [s] x := List.filter_append ..
    have d5 : (LS (inStr pre x)).length < 2932031007402 := by
      rw [LS_len]
      have : (inStr pre x).length ≤ pre.length := List.length_filter_le ..
      omega
    have key := ih (pre ++ [s]) (by rw [← e]; simp)
    rw [e3, e4, LS_app] at key
    have hl2 := strL_le h0
    simp only [impl_SurfacesIn.l0, d1, d2, d4, if_true]
    refine Ev.bind (impl_strat h0) (Ev.bind (equal_int _ x (by rw [I_len]; omega)) ?_)
    by_cases hx : I (strL s) = x
    · have e5 : inStr [s] x = [s] := by simp [inStr, hx]
      rw [e5] at key
      simp only [hx, decide_true, if_true, d5, d3]
      exact key
    · have e5 : inStr [s] x = [] := by simp [inStr, hx]
      rw [e5] at key
      simp only [hx, decide_false, Bool.false_eq_true, if_false, d3]
      simpa [LS] using key
theorem impl_in {n : Nat} (h1 : 1 ≤ n) (h4 : n ≤ 4) (x : List Int) : Ev (fun k => impl_SurfacesIn.f k (n : Int) x) (LS (inStr (tabN n) x)) := by
  obtain ⟨a, b⟩ := tabN_ok h4
  have := impl_with h1 h4
  rw [surf_tab h1 h4] at this
  unfold impl_SurfacesIn.f
  exact Ev.bind this (impl_in_loop x (tabN n) (by omega) b (tabN n) [] rfl)
end Go.Proofs.Ytoijcallajegfaa.M
end
section
/- The tori, counted: the program and the reference agree. No conditions. -/
namespace Go.Proofs.Ytoijcallajegfaa.M
set_option linter.unusedVariables false
set_option linter.unusedSimpArgs false
open Go.RowKit Go.Proofs.YtoijcallajegfaaW.PrintWords Go.Proofs.YtoijcallajegfaaW.PrintLast Go.Proofs.YtoijcallajegfaaW.PrintMore Go.Proofs.Ytoijcallajegfaa.A
def torB (s : List Nat × List Nat) : Bool := decide (genusI s.1.length (cycles (arnd s.1 s.2)).length = 1)
theorem tori_loop (l : List (List Nat × List Nat)) (hl : l.length ≤ 1000) (hs : ∀ s ∈ l, Sf s.1 s.2) : ∀ (rest pre : List (List Nat × List Nat)), pre ++ rest = l → Ev (fun k => impl_CountTori.l0 k ((pre.countP torB : Nat) : Int) (LS l) ((LS l).length : Int) (pre.length : Int)) ((l.countP torB : Nat) : Int) := by
  intro rest
  induction rest with
  | nil =>
    intro pre e
    rw [List.append_nil] at e
    subst e
    refine ev_succ ?_
    have d1 : ¬ ((pre.length : Int) < ((LS pre).length : Int)) := by rw [LS_len]; omega
    simp only [impl_CountTori.l0, d1, if_false]
    exact Ev.now _
  | cons s rest ih =>
    intro pre e
    have hlen : l.length = pre.length + (rest.length + 1) := by rw [← e]; simp
    have h0 := hs s (by rw [← e]; simp)
    refine ev_succ ?_
    have d1 : ((pre.length : Int) < ((LS l).length : Int)) := by rw [LS_len]; omega
    have d2 : (0 : Int) ≤ (pre.length : Int) := by omega
    have d3 := w64s pre.length (by omega)
    have d4 : rd_T33 (LS l) (pre.length : Int) = ⟨I s.1, I s.2⟩ := by rw [← e]; exact LS_mid pre s rest
    have e3 : ((pre ++ [s]).length : Int) = ((pre.length + 1 : Nat) : Int) := by simp
    have hc : pre.countP torB ≤ pre.length := List.countP_le_length
    have d6 := w64s (pre.countP torB) (by omega)
    have key := ih (pre ++ [s]) (by rw [← e]; simp)
    rw [e3, List.countP_append] at key
    simp only [impl_CountTori.l0, d1, d2, d4, if_true]
    refine Ev.bind (impl_genus h0) ?_
    by_cases hx : genusI s.1.length (cycles (arnd s.1 s.2)).length = 1
    · have e5 : [s].countP torB = 1 := by simp [torB, hx]
      rw [e5] at key
      simp only [hx, if_true, d6, d3]
      exact key
    · have e5 : [s].countP torB = 0 := by simp [torB, hx]
      rw [e5, Nat.add_zero] at key
      simp only [hx, if_false, d3]
      exact key
theorem impl_tori {n : Nat} (h1 : 1 ≤ n) (h4 : n ≤ 4) : Ev (fun k => impl_CountTori.f k (n : Int)) (((tabN n).countP torB : Nat) : Int) := by
  obtain ⟨a, b⟩ := tabN_ok h4
  have h := impl_with h1 h4
  rw [surf_tab h1 h4] at h
  unfold impl_CountTori.f
  have c1 : ¬ ((n : Int) < 1) := by omega
  have c2 : ¬ ((n : Int) > 4) := by omega
  simp only [c1, c2, if_false, decide_false]
  refine ev_succ ?_
  simp only [impl_CountTori.j0, Bool.false_eq_true, if_false]
  exact Ev.bind h (tori_loop (tabN n) (by omega) b (tabN n) [] rfl)
end Go.Proofs.Ytoijcallajegfaa.M
end
section
/- The strata: the program and the reference list them alike. No conditions. -/
namespace Go.Proofs.Ytoijcallajegfaa.M
set_option linter.unusedVariables false
set_option linter.unusedSimpArgs false
open Go.RowKit Go.Proofs.YtoijcallajegfaaW.PrintWords Go.Proofs.YtoijcallajegfaaW.PrintLast Go.Proofs.YtoijcallajegfaaW.PrintMore Go.Proofs.Ytoijcallajegfaa.A
def LUp (l : List (List Nat)) : Prop := l.Pairwise (fun a b => lexC a b < 0)
theorem LUp.nodup {l : List (List Nat)} (h : LUp l) : l.Nodup :=
  h.imp (fun {a b} hab e => by subst e; rw [(lexC_eq _ _).2 rfl] at hab; omega)
theorem lup_uniq {l l' : List (List Nat)} (h : LUp l) (h' : LUp l') (hm : ∀ x, x ∈ l ↔ x ∈ l') : l = l' := by
  refine List.Perm.eq_of_pairwise (le := fun a b => lexC a b < 0) ?_ h h' ((List.perm_ext_iff_of_nodup h.nodup h'.nodup).2 hm)
  intro a b _ _ h1 h2
  have := lexC_neg a b
  omega
theorem mem_cptGoL : ∀ (p : List Nat) (l : List (List Nat)) (y : List Nat), y ∈ p :: cptGo (fun a b => decide (a = b)) p l ↔ y ∈ p :: l
  | p, [], y => by simp [cptGo]
  | p, x :: l, y => by
    have := mem_cptGoL x l y
    unfold cptGo
    by_cases e : x = p
    · subst e
      simp only [decide_true, if_true]
      rw [this]
      simp
    · simp only [e, decide_false, Bool.false_eq_true, if_false]
      rw [List.mem_cons, this, List.mem_cons (l := x :: l)]
theorem lup_cptGo : ∀ (p : List Nat) (l : List (List Nat)), (p :: l).Pairwise (fun a b => ¬ lexC b a < 0) → LUp (p :: cptGo (fun a b => decide (a = b)) p l)
  | p, [], _ => List.pairwise_singleton _ _
  | p, x :: l, h => by
    obtain ⟨h1, h2⟩ := List.pairwise_cons.1 h
    have := lup_cptGo x l h2
    unfold cptGo
    by_cases e : x = p
    · subst e
      simp only [decide_true, if_true]
      exact this
    · simp only [e, decide_false, Bool.false_eq_true, if_false]
      refine List.pairwise_cons.2 ⟨?_, this⟩
      intro y hy
      rw [mem_cptGoL] at hy
      have hpx : lexC p x < 0 := by
        have a := h1 x (by simp)
        have b := lexC_neg p x
        have c : lexC p x ≠ 0 := fun h0 => e ((lexC_eq _ _).1 h0).symm
        omega
      rcases List.mem_cons.1 hy with rfl | hy
      · exact hpx
      · have hxy := (List.pairwise_cons.1 h2).1 y hy
        by_cases e0 : lexC x y = 0
        · rw [← (lexC_eq _ _).1 e0]; exact hpx
        · have := lexC_neg x y
          exact lexC_tr _ _ _ hpx (by omega)
theorem merge_uniq (l R : List (List Nat)) (h : LUp R) (hm : ∀ x, x ∈ R ↔ x ∈ l) : cpt (fun a b => decide (a = b)) (l.mergeSort (fun a b => decide (¬ lexC b a < 0))) = R := by
  have hp := List.mergeSort_perm l (fun a b => decide (¬ lexC b a < 0))
  have hs : (l.mergeSort (fun a b => decide (¬ lexC b a < 0))).Pairwise (fun a b => ¬ lexC b a < 0) := by
    have := List.pairwise_mergeSort (le := fun a b => decide (¬ lexC b a < 0)) (fun a b c h1 h2 => decide_eq_true (lexC_le_tr c b a (of_decide_eq_true h2) (of_decide_eq_true h1))) (fun a b => by
      have := lexC_neg a b
      simp only [Bool.or_eq_true, decide_eq_true_eq]
      omega) l
    exact this.imp (fun h => of_decide_eq_true h)
  generalize l.mergeSort (fun a b => decide (¬ lexC b a < 0)) = m at hp hs
  cases m with
  | nil =>
    have : l = [] := hp.symm.eq_nil
    subst this
    cases R with
    | nil => rfl
    | cons y R => exact absurd ((hm y).1 (by simp)) (by simp)
  | cons x m =>
    refine lup_uniq (lup_cptGo x m hs) h ?_
    intro y
    show y ∈ x :: cptGo (fun a b => decide (a = b)) x m ↔ _
    rw [mem_cptGoL, hp.mem_iff, hm]
def strN : Nat → List (List Nat)
  | 1 => [[]]
  | 2 => [[]]
  | 3 => [[], [2]]
  | 4 => [[], [1, 1], [2]]
  | _ => []
theorem str_tab : ∀ n : Fin 5, (strN n.val).Pairwise (fun a b => lexC a b < 0) ∧ (∀ x ∈ strN n.val, x ∈ (tabN n.val).map strL) ∧ (∀ x ∈ (tabN n.val).map strL, x ∈ strN n.val) := by decide +kernel
theorem str_small : ∀ n : Fin 5, (strN n.val).length ≤ 3 ∧ ∀ x ∈ strN n.val, x.length ≤ 2 := by decide +kernel
theorem compL_f {l : List (List Nat)} {R : List (List Nat)} (h : LUp R) (hm : ∀ x, x ∈ R ↔ x ∈ l) (hl : l.length ≤ 1000) (hs : ∀ x ∈ l, x.length ≤ 1000) : slices_CompactFunc_int_int.f (I2 l) = some (I2 R) := by
  unfold slices_CompactFunc_int_int.f
  have e1 : (I2 l).map toL = l := by
    unfold I2
    rw [List.map_map]
    conv => rhs; rw [← List.map_id l]
    exact List.map_congr_left (fun x _ => N_I x)
  have e2 : ∀ x ∈ I2 l, NN x := by
    intro x hx
    obtain ⟨y, hy, rfl⟩ := List.mem_map.1 hx
    have := hs y hy
    exact I_NN (by omega)
  rw [if_pos ⟨e2, by rw [I2_len]; omega⟩, e1, merge_uniq l R h hm]
  rfl
theorem strata_loop (l : List (List Nat × List Nat)) (hl : l.length ≤ 1000) (hs : ∀ s ∈ l, Sf s.1 s.2) {R : List (List Nat)} (h : LUp R) (hm : ∀ x, x ∈ R ↔ x ∈ l.map strL) : ∀ (rest pre : List (List Nat × List Nat)), pre ++ rest = l → Ev (fun k => impl_StrataWith.l0 k (I2 (pre.map strL)) (LS l) ((LS l).length : Int) (pre.length : Int)) (I2 R) := by
  intro rest
  induction rest with
  | nil =>
    intro pre e
    rw [List.append_nil] at e
    subst e
    refine ev_succ ?_
    have d1 : ¬ ((pre.length : Int) < ((LS pre).length : Int)) := by rw [LS_len]; omega
    have d2 := compL_f h hm (by rw [List.length_map]; omega) (fun x hx => by
      obtain ⟨y, hy, rfl⟩ := List.mem_map.1 hx
      have := strL_le (hs y hy)
      omega)
    simp only [impl_StrataWith.l0, d1, if_false, d2, Option.bind_some]
    exact Ev.now _
  | cons s rest ih =>
    intro pre e
    have hlen : l.length = pre.length + (rest.length + 1) := by rw [← e]; simp
    have h0 := hs s (by rw [← e]; simp)
    refine ev_succ ?_
    have d1 : ((pre.length : Int) < ((LS l).length : Int)) := by rw [LS_len]; omega
    have d2 : (0 : Int) ≤ (pre.length : Int) := by omega
    have d3 := w64s pre.length (by omega)
    have d4 : rd_T33 (LS l) (pre.length : Int) = ⟨I s.1, I s.2⟩ := by rw [← e]; exact LS_mid pre s rest
    have e3 : ((pre ++ [s]).length : Int) = ((pre.length + 1 : Nat) : Int) := by simp
    have d5 : (I2 (pre.map strL)).length < 5864062014805 := by rw [I2_len, List.length_map]; omega
    have d6 : I2 (pre.map strL) ++ [I (strL s)] = I2 ((pre ++ [s]).map strL) := by rw [I2_snoc]; simp
    have key := ih (pre ++ [s]) (by rw [← e]; simp)
    rw [e3] at key
    simp only [impl_StrataWith.l0, d1, d2, d4, if_true]
    refine Ev.bind (impl_strat h0) ?_
    simp only [d5, if_true, d6, d3]
    exact key
theorem impl_strata {n : Nat} (h1 : 1 ≤ n) (h4 : n ≤ 4) : Ev (fun k => impl_StrataWith.f k (n : Int)) (I2 (strN n)) := by
  obtain ⟨a, b⟩ := tabN_ok h4
  have h := impl_with h1 h4
  rw [surf_tab h1 h4] at h
  obtain ⟨t1, t2, t3⟩ := str_tab ⟨n, by omega⟩
  unfold impl_StrataWith.f
  exact Ev.bind h (strata_loop (tabN n) (by omega) b t1 (fun x => ⟨t2 x, t3 x⟩) (tabN n) [] rfl)
end Go.Proofs.Ytoijcallajegfaa.M
end
section
/- The lists hold together. No conditions. -/
namespace Go.Proofs.Ytoijcallajegfaa.M
set_option linter.unusedVariables false
set_option linter.unusedSimpArgs false
open Go.RowKit Go.Proofs.YtoijcallajegfaaW.PrintWords Go.Proofs.YtoijcallajegfaaW.PrintLast Go.Proofs.YtoijcallajegfaaW.PrintMore Go.Proofs.Ytoijcallajegfaa.A
theorem num_draw (b : List Int) (hb : b.length ≤ 1000000000) (n : Nat) (hn : n ≤ 1000) : ∃ x : Nat, x ≤ 65535 ∧ Ev (fun k => spec_MakeNum.f k b (n : Int)) (x : Int) := by
  obtain ⟨i, h, i0, i1, e⟩ := skip_draw b hb n hn
  obtain ⟨x, i2, h2, e2, x0, x1, j0, j1⟩ := byte_draw b i h i0 i1 hb
  obtain ⟨y, i3, h3, e3, y0, y1, _, _⟩ := byte_draw b i2 h2 j0 j1 hb
  have e4 : wrap64 (wrap64 (x * 256) + y) = (((x * 256 + y).toNat : Nat) : Int) := by
    rw [w64 (x := x * 256) (by omega) (by omega), w64 (by omega) (by omega)]
    omega
  refine ⟨(x * 256 + y).toNat, by omega, ?_⟩
  unfold spec_MakeNum.f
  refine Ev.bind e ?_
  simp only [e2, e3, Option.bind_some, e4]
  exact Ev.now _
theorem mperm_ev (b : List Int) (hb : b.length ≤ 1000000000) (a : Nat) (ha : a ≤ 1000) (n : Nat) (h1 : 1 ≤ n) (h4 : n ≤ 4) : ∃ l, l.length = n ∧ Ev (fun k => spec_MakePerm.f k b (a : Int) (n : Int)) l := by
  obtain ⟨i, h, i0, i1, e⟩ := skip_draw b hb a ha
  obtain ⟨l, i', h', hl, _, _, e2⟩ := perm_draw b hb n (by omega) i h i0 i1
  refine ⟨l, hl, ?_⟩
  unfold spec_MakePerm.f
  have e3 : mx 1 (mn (n : Int) 24) = (n : Int) := by
    unfold mx mn
    split <;> split <;> omega
  rw [e3]
  exact Ev.bind e (Ev.bind e2 (Ev.now _))
theorem perm_mem {p : List Nat} (hp : IsP p) (h1 : 1 ≤ p.length) (h4 : p.length ≤ 4) : p ∈ permN p.length := by
  have key : ∀ a b c d : Fin 4, (IsP [a.val] → [a.val] ∈ permN 1) ∧ (IsP [a.val, b.val] → [a.val, b.val] ∈ permN 2) ∧ (IsP [a.val, b.val, c.val] → [a.val, b.val, c.val] ∈ permN 3) ∧ (IsP [a.val, b.val, c.val, d.val] → [a.val, b.val, c.val, d.val] ∈ permN 4) := by decide +kernel
  match p, hp, h1, h4 with
  | [a], hp, _, _ =>
    have ha := hp.lt a (by simp)
    simp at ha
    exact (key ⟨a, by omega⟩ 0 0 0).1 hp
  | [a, b], hp, _, _ =>
    have ha := hp.lt a (by simp)
    have hb := hp.lt b (by simp)
    simp at ha hb
    exact (key ⟨a, by omega⟩ ⟨b, by omega⟩ 0 0).2.1 hp
  | [a, b, c], hp, _, _ =>
    have ha := hp.lt a (by simp)
    have hb := hp.lt b (by simp)
    have hc := hp.lt c (by simp)
    simp at ha hb hc
    exact (key ⟨a, by omega⟩ ⟨b, by omega⟩ ⟨c, by omega⟩ 0).2.2.1 hp
  | [a, b, c, d], hp, _, _ =>
    have ha := hp.lt a (by simp)
    have hb := hp.lt b (by simp)
    have hc := hp.lt c (by simp)
    have hd := hp.lt d (by simp)
    simp at ha hb hc hd
    exact (key ⟨a, by omega⟩ ⟨b, by omega⟩ ⟨c, by omega⟩ ⟨d, by omega⟩).2.2.2 hp
theorem canS_mem {p q : List Nat} (h : Sf p q) (h4 : p.length ≤ 4) : canS p q ∈ tabN p.length := by
  have h1 : 1 ≤ p.length := h.pos
  have hq : q.length = p.length := h.eq
  rw [← surf_tab h1 h4]
  unfold surfN
  refine (mem_insAll _ _ _).2 (.inr (List.mem_flatMap.2 ⟨p, perm_mem h.pr h1 h4, List.mem_flatMap.2 ⟨q, ?_, ?_⟩⟩))
  · have := perm_mem h.pu (by omega) (by omega)
    rwa [hq] at this
  · rw [pr_yes (surfB_I.2 h)]
    simp
theorem can_tab : ∀ n : Fin 5, ∀ s ∈ tabN n.val, canS s.1 s.2 = s := by decide +kernel
theorem len_tab : ∀ n : Fin 5, 1 ≤ n.val → ((tabN n.val).length : Int) = rd ([0, 1, 3, 7, 26] : List Int) (n.val : Int) ∧ (((tabN n.val).countP torB : Nat) : Int) = rd ([0, 1, 3, 4, 7] : List Int) (n.val : Int) := by decide +kernel
def sumN (n : Nat) (l : List (List Nat)) : Nat := (l.map (fun s => (inStr (tabN n) (I s)).length)).sum
theorem sum_tab : ∀ n : Fin 5, sumN n.val (strN n.val) = (tabN n.val).length := by decide +kernel
theorem dim_tab : ∀ i : Fin 12, ∃ n : Fin 5, 1 ≤ n.val ∧ rd ([1, 2, 3, 3, 2, 3, 3, 3, 3, 3, 3, 4] : List Int) (i.val : Int) = (n.val : Int) := by decide +kernel
theorem l0_listed (b : List Int) (n : Nat) (h1 : 1 ≤ n) (h4 : n ≤ 4) (L : List S33) (R : Bool) : ∀ (rest pre : List (List Nat)) (a : Nat), pre ++ rest = strN n → a ≤ 1000 * pre.length →
    Ev (fun k => (spec_MakePerm.f k b 20 (n : Int)).bind fun t476 => ((spec_MakePerm.f k b 40 (n : Int)).bind fun t479 => ((impl_CanonOf.f k t476 t479).bind fun bt483 => (laws_FnListed.l1 k L (((a + sumN n rest : Nat)) : Int) bt483.2.2 false L (L.length : Int) 0 t476 t479 bt483.1 bt483.2.1)))) R →
    Ev (fun k => laws_FnListed.l0 k b (n : Int) L ((a : Nat) : Int) (I2 (strN n)) ((I2 (strN n)).length : Int) (pre.length : Int)) R := by
  have hs := (str_small ⟨n, by omega⟩).1
  have ht := (tabN_ok h4).1
  have hs' : (strN n).length ≤ 3 := hs
  intro rest
  induction rest with
  | nil =>
    intro pre a e ha hR
    rw [List.append_nil] at e
    refine ev_succ ?_
    have d1 : ¬ ((pre.length : Int) < ((I2 (strN n)).length : Int)) := by rw [I2_len, e]; omega
    simp only [laws_FnListed.l0, d1, if_false]
    exact hR
  | cons s rest ih =>
    intro pre a e ha hR
    have hlen : (strN n).length = pre.length + (rest.length + 1) := by rw [← e]; simp
    refine ev_succ ?_
    have d1 : ((pre.length : Int) < ((I2 (strN n)).length : Int)) := by rw [I2_len]; omega
    have d2 : (0 : Int) ≤ (pre.length : Int) := by omega
    have d4 : rd_L5 (I2 (strN n)) (pre.length : Int) = I s := by rw [← e]; exact rdL_mid pre s rest
    have e3 : ((pre ++ [s]).length : Int) = ((pre.length + 1 : Nat) : Int) := by simp
    have hx : (inStr (tabN n) (I s)).length ≤ (tabN n).length := List.length_filter_le _ _
    have hb2 : a + (inStr (tabN n) (I s)).length ≤ 1000 * (pre ++ [s]).length := by rw [List.length_append, List.length_singleton]; omega
    have d5 : wrap64 ((a : Int) + ((inStr (tabN n) (I s)).length : Int)) = ((a + (inStr (tabN n) (I s)).length : Nat) : Int) := by rw [w64 (by omega) (by omega)]; omega
    have d3 := w64s pre.length (by omega)
    have e6 : sumN n (s :: rest) = (inStr (tabN n) (I s)).length + sumN n rest := by unfold sumN; simp
    have key := ih (pre ++ [s]) (a + (inStr (tabN n) (I s)).length) (by rw [← e]; simp) hb2 (by rw [Nat.add_assoc, ← e6]; exact hR)
    rw [e3] at key
    simp only [laws_FnListed.l0, d1, d2, d4, if_true]
    refine Ev.bind (impl_in h1 h4 (I s)) ?_
    rw [LS_len]
    simp only [d5, d3]
    exact key
theorem l1_listed (n : Nat) (h4 : n ≤ 4) (x5 : Int) (ok : Bool) (p q c0 c1 : List Int) (c : List Nat × List Nat) (hc : ok = true → c0 = I c.1 ∧ c1 = I c.2) (hv : x5 = ((tabN n).length : Int)) (hok : ok = surfB p q) (hin : ok = true → c ∈ tabN n) : ∀ (rest pre : List (List Nat × List Nat)), pre ++ rest = tabN n →
    Ev (fun k => laws_FnListed.l1 k (LS (tabN n)) x5 ok (ok && decide (c ∈ pre)) (LS (tabN n)) ((LS (tabN n)).length : Int) (pre.length : Int) p q c0 c1) true := by
  obtain ⟨hl, hs⟩ := tabN_ok h4
  intro rest
  induction rest with
  | nil =>
    intro pre e
    rw [List.append_nil] at e
    subst e
    refine ev_succ ?_
    have d1 : ¬ (((tabN n).length : Int) < ((LS (tabN n)).length : Int)) := by rw [LS_len]; omega
    have d2 : x5 = ((LS (tabN n)).length : Int) := by rw [LS_len]; exact hv
    have d3 : ((ok && decide (c ∈ tabN n)) == ok) = true := by
      cases ok with
      | false => rfl
      | true => simp [hin rfl]
    simp only [laws_FnListed.l1, d1, d2, d3, if_false, if_true]
    refine Ev.bind (impl_surf p q) ?_
    rw [← hok]
    have : (some (ok == ok) : Option Bool) = some true := by cases ok <;> rfl
    rw [this]
    exact Ev.now _
  | cons s rest ih =>
    intro pre e
    have hlen : (tabN n).length = pre.length + (rest.length + 1) := by rw [← e]; simp
    have hm : s ∈ tabN n := by rw [← e]; simp
    have h0 := hs s hm
    refine ev_succ ?_
    have d1 : ((pre.length : Int) < ((LS (tabN n)).length : Int)) := by rw [LS_len]; omega
    have d2 : (0 : Int) ≤ (pre.length : Int) := by omega
    have d3 := w64s pre.length (by omega)
    have d4 : rd_T33 (LS (tabN n)) (pre.length : Int) = ⟨I s.1, I s.2⟩ := by rw [← e]; exact LS_mid pre s rest
    have e3 : ((pre ++ [s]).length : Int) = ((pre.length + 1 : Nat) : Int) := by simp
    have hle := h0.le
    have hle2 : s.2.length ≤ 24 := by have := h0.eq; omega
    have e5 := impl_canon h0
    rw [can_tab ⟨n, by omega⟩ s hm] at e5
    have e6 := impl_same s s (by omega) (by omega)
    rw [decide_eq_true rfl] at e6
    have key := ih (pre ++ [s]) (by rw [← e]; simp)
    rw [e3] at key
    simp only [laws_FnListed.l1, d1, d2, d4, if_true]
    refine Ev.bind e5 ?_
    simp only [if_true]
    refine Ev.bind e6 ?_
    simp only [if_true, d3]
    have e7 : (ok && decide (c ∈ pre ++ [s])) = (ok && (decide (c ∈ pre) || decide (s = c))) := by
      congr 1
      rw [Bool.eq_iff_iff, decide_eq_true_iff, Bool.or_eq_true, decide_eq_true_iff, decide_eq_true_iff, List.mem_append, List.mem_singleton]
      exact or_congr Iff.rfl eq_comm
    rw [e7] at key
    cases ok with
    | false =>
      simp only [Bool.false_and, Bool.false_eq_true, if_false] at key ⊢
      exact key
    | true =>
      obtain ⟨rfl, rfl⟩ := hc rfl
      by_cases hp : c ∈ pre
      · simp only [hp, decide_true, Bool.true_and, Bool.true_or, if_true] at key ⊢
        exact key
      · simp only [hp, decide_false, Bool.true_and, Bool.false_or, Bool.false_eq_true, if_false, if_true] at key ⊢
        exact Ev.bind (impl_same s c (by omega) (by omega)) key
end Go.Proofs.Ytoijcallajegfaa.M
end
section
/- The law of lists answers true. No conditions. -/
namespace Go.Proofs.Ytoijcallajegfaa.Pure
set_option linter.unusedVariables false
set_option linter.unusedSimpArgs false
set_option linter.unusedVariables false
set_option linter.unusedSimpArgs false
open Go.RowKit Go.Proofs.YtoijcallajegfaaW.PrintWords Go.Proofs.YtoijcallajegfaaW.PrintLast Go.Proofs.YtoijcallajegfaaW.PrintMore Go.Proofs.Ytoijcallajegfaa.A Go.Proofs.Ytoijcallajegfaa.M
theorem FnListed (b : List Int) (hb : b.length ≤ maxLen) (_ : ∀ x ∈ b, (Lit.int .u8 x).wf = true) : ∃ k, laws_FnListed.f k b = some true := by
  refine Ev.rounds ?_
  unfold laws_FnListed.f
  by_cases h : (b.length : Int) > 1048576
  · simp only [h, if_true]
    exact Ev.now _
  · simp only [h, if_false, Option.bind_some]
    obtain ⟨x, hx, e1⟩ := num_draw b (by omega) 1 (by omega)
    have hj : Int.tmod (x : Int) 12 = ((x % 12 : Nat) : Int) := (Int.tmod_eq_emod_of_nonneg (by omega)).trans (by omega)
    obtain ⟨n, h1, hn⟩ := dim_tab ⟨x % 12, by omega⟩
    have h4 : n.val ≤ 4 := by omega
    obtain ⟨l1, l2⟩ := len_tab n h1
    have q1 : (0 : Int) ≤ ((x % 12 : Nat) : Int) := by omega
    have q2 : ((x % 12 : Nat) : Int) < ((([1, 2, 3, 3, 2, 3, 3, 3, 3, 3, 3, 4] : List Int)).length : Int) := by simp; omega
    have hn' : rd ([1, 2, 3, 3, 2, 3, 3, 3, 3, 3, 3, 4] : List Int) ((x % 12 : Nat) : Int) = (n.val : Int) := hn
    have q3 : (0 : Int) ≤ (n.val : Int) := by omega
    have q4 : (n.val : Int) < ((([0, 1, 3, 7, 26] : List Int)).length : Int) := by simp; omega
    have q5 : (n.val : Int) < ((([0, 1, 3, 4, 7] : List Int)).length : Int) := by simp; omega
    refine Ev.bind e1 ?_
    simp only [hj, q1, q2, hn', if_true]
    have w := impl_with h1 h4
    rw [surf_tab h1 h4] at w
    refine Ev.bind w ?_
    have q6 : ((LS (tabN n.val)).length : Int) = rd ([0, 1, 3, 7, 26] : List Int) (n.val : Int) := by rw [LS_len]; exact l1
    simp only [q3, q4, q6, if_true]
    refine Ev.bind (impl_tori h1 h4) ?_
    have q7 : ((((tabN n.val).countP torB : Nat) : Int) != rd ([0, 1, 3, 4, 7] : List Int) (n.val : Int)) = false := by rw [l2]; simp
    simp only [q5, q7, if_true]
    refine ev_succ ?_
    simp only [laws_FnListed.j0, Bool.false_eq_true, if_false]
    refine Ev.bind (impl_strata h1 h4) ?_
    refine l0_listed b n.val h1 h4 (LS (tabN n.val)) true (strN n.val) [] 0 (by simp) (by simp) ?_
    obtain ⟨p, hp, ep⟩ := mperm_ev b (by omega) 20 (by omega) n.val h1 h4
    obtain ⟨q, hq, eq⟩ := mperm_ev b (by omega) 40 (by omega) n.val h1 h4
    refine Ev.bind ep (Ev.bind eq ?_)
    have hsum : (((0 + sumN n.val (strN n.val) : Nat)) : Int) = ((tabN n.val).length : Int) := by rw [Nat.zero_add, sum_tab n]
    rw [hsum]
    by_cases hv : surfB p q = true
    · obtain ⟨p', q', rfl, rfl, hs⟩ := surf_nat hv
      refine Ev.bind (impl_canon hs) ?_
      rw [I_len] at hp
      have hin : canS p' q' ∈ tabN n.val := by
        have := canS_mem hs (by omega)
        rwa [hp] at this
      have key := l1_listed n.val h4 ((tabN n.val).length : Int) true (I p') (I q') (I (canS p' q').1) (I (canS p' q').2) (canS p' q') (fun _ => ⟨rfl, rfl⟩) rfl hv.symm (fun _ => hin) (tabN n.val) [] rfl
      simpa using key
    · refine Ev.bind (impl_canon_no hv) ?_
      have key := l1_listed n.val h4 ((tabN n.val).length : Int) false p q [] [] ([], []) (fun h => by cases h) rfl (by cases hw : surfB p q with | false => rfl | true => exact absurd hw hv) (fun h => by cases h) (tabN n.val) [] rfl
      simpa using key
end Go.Proofs.Ytoijcallajegfaa.Pure
end
