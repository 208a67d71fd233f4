/- Lemmas for the row FnPaths: the program's functions told as plain functions, and plain mathematics. No conditions. -/
import Derived.Test.YtbdnellgioimbaaQFnPaths3
section
namespace Go.Proofs.Ytbdnellgioimbaa.A
open Go.RowKit Go.Proofs.YtbdnellgioimbaaW.PrintWords Go.Proofs.YtbdnellgioimbaaW.PrintLast Go.Proofs.YtbdnellgioimbaaW.PrintMore
attribute [local go_sem] max2_int min2_int max_two min_two max_three min_three max_four min_four
set_option linter.unusedVariables false
set_option linter.unusedSimpArgs false
mutual
def laws_FnPaths.j0 : Nat → List Int → ByteArray → List Int → Bool → List Int → List Int → Option (Bool)
  | 0, _, _, _, _, _, _ => none
  | k + 1, x7, x10, x11, x105, x1222000, x1222001 => if x105 = true then (some false) else (laws_FnPaths.l0 k x7 x10 x11 x7 (x7.length : Int) 0 x1222000 x1222001)
def laws_FnPaths.l0 : Nat → List Int → ByteArray → List Int → List Int → Int → Int → List Int → List Int → Option (Bool)
  | 0, _, _, _, _, _, _, _, _ => none
  | k + 1, x7, x10, x11, x106, x107, x108, x1222000, x1222001 => if x108 < x107 then (if 0 ≤ x108 then (if x108 < (x106.length : Int) then (if (x7.length : Int) = 0 then (none) else (if 0 ≤ (Int.tmod (wrap64 (x108 + 1)) (x7.length : Int)) then (if (Int.tmod (wrap64 (x108 + 1)) (x7.length : Int)) < (x7.length : Int) then (if (rd x106 x108) < 0 then (some false) else (if (rd x106 x108) ≥ (x1222000.length : Int) then (some false) else (if x108 < (x10.size : Int) then (if (bt x10 x108) = 114 then (if 0 ≤ (rd x106 x108) then (if (rd x106 x108) < (x1222000.length : Int) then (if (rd x7 (Int.tmod (wrap64 (x108 + 1)) (x7.length : Int))) = (rd x1222000 (rd x106 x108)) then (if (rd x106 x108) < (x11.length : Int) then (if (rd x11 (rd x106 x108)) < 1 then (some false) else (laws_FnPaths.l0 k x7 x10 x11 x106 x107 (wrap64 (x108 + 1)) x1222000 x1222001)) else (none)) else (some false)) else (none)) else (none)) else (if 0 ≤ (rd x106 x108) then (if (rd x106 x108) < (x1222001.length : Int) then (if (rd x7 (Int.tmod (wrap64 (x108 + 1)) (x7.length : Int))) = (rd x1222001 (rd x106 x108)) then (if (rd x106 x108) < (x11.length : Int) then (if (rd x11 (rd x106 x108)) < 1 then (some false) else (laws_FnPaths.l0 k x7 x10 x11 x106 x107 (wrap64 (x108 + 1)) x1222000 x1222001)) else (none)) else (some false)) else (none)) else (none))) else (none)))) else (none)) else (none))) else (none)) else (none)) else (some true)
end
def laws_FnPaths.f (k : Nat) (l0 : List Int) : Option (Bool) := if (l0.length : Int) > 1048576 then (some true) else ((spec_MakeSurface.f k l0).bind fun bt1215 => ((spec_MakeSlope.f k l0 40).bind fun bt1222 => ((spec_MakeNum.f k l0 60).bind fun t1224 => (if (bt1215.1.length : Int) = 0 then (none) else ((impl_PathSquares.f k bt1215.1 bt1215.2 (Int.tmod t1224 (bt1215.1.length : Int)) bt1222.1 bt1222.2).bind fun bt1225 => ((impl_PathRounds.f k bt1215.1 bt1215.2 (Int.tmod t1224 (bt1215.1.length : Int)) bt1222.1 bt1222.2).bind fun t1229 => ((impl_PathText.f k bt1215.1 bt1215.2 (Int.tmod t1224 (bt1215.1.length : Int)) bt1222.1 bt1222.2).bind fun t1230 => ((impl_Visits.f k bt1215.1 bt1215.2 (Int.tmod t1224 (bt1215.1.length : Int)) bt1222.1 bt1222.2).bind fun t1231 => (if bt1225.2 = true then (if t1229 < 1 then (laws_FnPaths.j0 k bt1225.1 t1230 t1231 true bt1215.1 bt1215.2) else (if t1229 > (bt1215.1.length : Int) then (laws_FnPaths.j0 k bt1225.1 t1230 t1231 true bt1215.1 bt1215.2) else (if (bt1225.1.length : Int) = (wrap64 (t1229 * (wrap64 (bt1222.1 + bt1222.2)))) then (if (t1230.size : Int) = (bt1225.1.length : Int) then ((laws_total.f k t1231).bind fun t1234 => (if t1234 = (bt1225.1.length : Int) then (if (t1231.length : Int) = (bt1215.1.length : Int) then (if 0 < (bt1225.1.length : Int) then (laws_FnPaths.j0 k bt1225.1 t1230 t1231 ((rd bt1225.1 0) != (Int.tmod t1224 (bt1215.1.length : Int))) bt1215.1 bt1215.2) else (none)) else (laws_FnPaths.j0 k bt1225.1 t1230 t1231 true bt1215.1 bt1215.2)) else (laws_FnPaths.j0 k bt1225.1 t1230 t1231 true bt1215.1 bt1215.2))) else (laws_FnPaths.j0 k bt1225.1 t1230 t1231 true bt1215.1 bt1215.2)) else (laws_FnPaths.j0 k bt1225.1 t1230 t1231 true bt1215.1 bt1215.2)))) else (laws_FnPaths.j0 k bt1225.1 t1230 t1231 true bt1215.1 bt1215.2))))))))))
theorem laws_FnPaths.mono_l : ∀ k, (∀ y0 y1 y2 y3 y4 y5, LeO (laws_FnPaths.j0 k y0 y1 y2 y3 y4 y5) (laws_FnPaths.j0 (k + 1) y0 y1 y2 y3 y4 y5)) ∧ (∀ y0 y1 y2 y3 y4 y5 y6 y7, LeO (laws_FnPaths.l0 k y0 y1 y2 y3 y4 y5 y6 y7) (laws_FnPaths.l0 (k + 1) y0 y1 y2 y3 y4 y5 y6 y7))
  | 0 => ⟨fun _ _ _ _ _ _ r h => by simp [laws_FnPaths.j0] at h, fun _ _ _ _ _ _ _ _ r h => by simp [laws_FnPaths.l0] at h⟩
  | k + 1 => by
    obtain ⟨ih0, ih1⟩ := laws_FnPaths.mono_l k
    refine ⟨?_, ?_⟩
    · intro y0 y1 y2 y3 y4 y5
      unfold laws_FnPaths.j0
      repeat' first
      | (with_reducible exact ih0 _ _ _ _ _ _)
      | (with_reducible exact ih1 _ _ _ _ _ _ _ _)
      | (with_reducible exact impl_PathRounds.mono _ _ _ _ _ _)
      | (with_reducible exact impl_PathSquares.mono _ _ _ _ _ _)
      | (with_reducible exact impl_PathText.mono _ _ _ _ _ _)
      | (with_reducible exact impl_Visits.mono _ _ _ _ _ _)
      | (with_reducible exact laws_total.mono _ _)
      | (with_reducible exact spec_MakeNum.mono _ _ _)
      | (with_reducible exact spec_MakeSlope.mono _ _ _)
      | (with_reducible exact spec_MakeSurface.mono _ _)
      | (with_reducible exact LeO.refl _)
      | (with_reducible exact LeO.none _)
      | (with_reducible refine LeO.ite ?_ ?_)
      | (with_reducible refine LeO.bind ?_ (fun _ => ?_))
      | exact ih0 _ _ _ _ _ _
      | exact ih1 _ _ _ _ _ _ _ _
      | exact impl_PathRounds.mono _ _ _ _ _ _
      | exact impl_PathSquares.mono _ _ _ _ _ _
      | exact impl_PathText.mono _ _ _ _ _ _
      | exact impl_Visits.mono _ _ _ _ _ _
      | exact laws_total.mono _ _
      | exact spec_MakeNum.mono _ _ _
      | exact spec_MakeSlope.mono _ _ _
      | exact spec_MakeSurface.mono _ _
      | exact LeO.none _
      | refine LeO.ite ?_ ?_
      | refine LeO.bind ?_ (fun _ => ?_)
    · intro y0 y1 y2 y3 y4 y5 y6 y7
      unfold laws_FnPaths.l0
      repeat' first
      | (with_reducible exact ih0 _ _ _ _ _ _)
      | (with_reducible exact ih1 _ _ _ _ _ _ _ _)
      | (with_reducible exact impl_PathRounds.mono _ _ _ _ _ _)
      | (with_reducible exact impl_PathSquares.mono _ _ _ _ _ _)
      | (with_reducible exact impl_PathText.mono _ _ _ _ _ _)
      | (with_reducible exact impl_Visits.mono _ _ _ _ _ _)
      | (with_reducible exact laws_total.mono _ _)
      | (with_reducible exact spec_MakeNum.mono _ _ _)
      | (with_reducible exact spec_MakeSlope.mono _ _ _)
      | (with_reducible exact spec_MakeSurface.mono _ _)
      | (with_reducible exact LeO.refl _)
      | (with_reducible exact LeO.none _)
      | (with_reducible refine LeO.ite ?_ ?_)
      | (with_reducible refine LeO.bind ?_ (fun _ => ?_))
      | exact ih0 _ _ _ _ _ _
      | exact ih1 _ _ _ _ _ _ _ _
      | exact impl_PathRounds.mono _ _ _ _ _ _
      | exact impl_PathSquares.mono _ _ _ _ _ _
      | exact impl_PathText.mono _ _ _ _ _ _
      | exact impl_Visits.mono _ _ _ _ _ _
      | exact laws_total.mono _ _
      | exact spec_MakeNum.mono _ _ _
      | exact spec_MakeSlope.mono _ _ _
      | exact spec_MakeSurface.mono _ _
      | exact LeO.none _
      | refine LeO.ite ?_ ?_
      | refine LeO.bind ?_ (fun _ => ?_)
theorem laws_FnPaths.mono : ∀ a0 k, LeO (laws_FnPaths.f k a0) (laws_FnPaths.f (k + 1) a0) := by
  intro a0 k
  obtain ⟨ih0, ih1⟩ := laws_FnPaths.mono_l k
  unfold laws_FnPaths.f
  repeat' first
      | (with_reducible exact ih0 _ _ _ _ _ _)
      | (with_reducible exact ih1 _ _ _ _ _ _ _ _)
      | (with_reducible exact impl_PathRounds.mono _ _ _ _ _ _)
      | (with_reducible exact impl_PathSquares.mono _ _ _ _ _ _)
      | (with_reducible exact impl_PathText.mono _ _ _ _ _ _)
      | (with_reducible exact impl_Visits.mono _ _ _ _ _ _)
      | (with_reducible exact laws_total.mono _ _)
      | (with_reducible exact spec_MakeNum.mono _ _ _)
      | (with_reducible exact spec_MakeSlope.mono _ _ _)
      | (with_reducible exact spec_MakeSurface.mono _ _)
      | (with_reducible exact LeO.refl _)
      | (with_reducible exact LeO.none _)
      | (with_reducible refine LeO.ite ?_ ?_)
      | (with_reducible refine LeO.bind ?_ (fun _ => ?_))
      | exact ih0 _ _ _ _ _ _
      | exact ih1 _ _ _ _ _ _ _ _
      | exact impl_PathRounds.mono _ _ _ _ _ _
      | exact impl_PathSquares.mono _ _ _ _ _ _
      | exact impl_PathText.mono _ _ _ _ _ _
      | exact impl_Visits.mono _ _ _ _ _ _
      | exact laws_total.mono _ _
      | exact spec_MakeNum.mono _ _ _
      | exact spec_MakeSlope.mono _ _ _
      | exact spec_MakeSurface.mono _ _
      | exact LeO.none _
      | refine LeO.ite ?_ ?_
      | refine LeO.bind ?_ (fun _ => ?_)
set_option maxHeartbeats 8000000 in
set_option maxRecDepth 100000 in
theorem laws_FnPaths.calls (k : Nat) (A0 : Option Addr) (c0 : Nat) (l0 : List Int) (r : Bool) (w : World) (hr0 : Kd.C (Kd.int .u8) w A0 l0.length l0) (hc0 : l0.length ≤ c0) (h : laws_FnPaths.f k l0 = some r) (hr1_ : Aside0 (r = true)) :
    Calls Try.prog 10 #[.slice A0 l0.length c0] w fun e w' => e = .returned (.bool r) ∧ Below w.heap.size w w' := by
  have hu27 := Try.underlying27
  have HR0 := Aside0.mk hr0
  have HC0 := Aside0.mk hc0
  clear hr0 hc0
  have HB := Aside0.mk (Below.refl w.heap.size w)
  have H : (if (l0.length : Int) > 1048576 then (some true) else ((spec_MakeSurface.f k l0).bind fun bt1215 => ((spec_MakeSlope.f k l0 40).bind fun bt1222 => ((spec_MakeNum.f k l0 60).bind fun t1224 => (if (bt1215.1.length : Int) = 0 then (none) else ((impl_PathSquares.f k bt1215.1 bt1215.2 (Int.tmod t1224 (bt1215.1.length : Int)) bt1222.1 bt1222.2).bind fun bt1225 => ((impl_PathRounds.f k bt1215.1 bt1215.2 (Int.tmod t1224 (bt1215.1.length : Int)) bt1222.1 bt1222.2).bind fun t1229 => ((impl_PathText.f k bt1215.1 bt1215.2 (Int.tmod t1224 (bt1215.1.length : Int)) bt1222.1 bt1222.2).bind fun t1230 => ((impl_Visits.f k bt1215.1 bt1215.2 (Int.tmod t1224 (bt1215.1.length : Int)) bt1222.1 bt1222.2).bind fun t1231 => (if bt1225.2 = true then (if t1229 < 1 then (laws_FnPaths.j0 k bt1225.1 t1230 t1231 true bt1215.1 bt1215.2) else (if t1229 > (bt1215.1.length : Int) then (laws_FnPaths.j0 k bt1225.1 t1230 t1231 true bt1215.1 bt1215.2) else (if (bt1225.1.length : Int) = (wrap64 (t1229 * (wrap64 (bt1222.1 + bt1222.2)))) then (if (t1230.size : Int) = (bt1225.1.length : Int) then ((laws_total.f k t1231).bind fun t1234 => (if t1234 = (bt1225.1.length : Int) then (if (t1231.length : Int) = (bt1215.1.length : Int) then (if 0 < (bt1225.1.length : Int) then (laws_FnPaths.j0 k bt1225.1 t1230 t1231 ((rd bt1225.1 0) != (Int.tmod t1224 (bt1215.1.length : Int))) bt1215.1 bt1215.2) else (none)) else (laws_FnPaths.j0 k bt1225.1 t1230 t1231 true bt1215.1 bt1215.2)) else (laws_FnPaths.j0 k bt1225.1 t1230 t1231 true bt1215.1 bt1215.2))) else (laws_FnPaths.j0 k bt1225.1 t1230 t1231 true bt1215.1 bt1215.2)) else (laws_FnPaths.j0 k bt1225.1 t1230 t1231 true bt1215.1 bt1215.2)))) else (laws_FnPaths.j0 k bt1225.1 t1230 t1231 true bt1215.1 bt1215.2))))))))))) = some r := h
  clear h
  by_cases c2 : (l0.length : Int) > 1048576
  · rw [if_pos c2] at H
    have c2b0 : decide (1048576 < (l0.length : Int)) = true := decide_eq_true c2
    have c2b1 : decide (1048576 < l0.length) = true := decide_eq_true (by omega)
    clear c2
    obtain rfl := Option.some.inj H
    go_enter Try.func10, Try.ntmps10
    go_wp2
    go_ret
    exact ⟨by first | rfl | (simp [errW_none, errW_some] <;> rfl) | (simp [*, errW_none, errW_some] <;> rfl), by repeat (first | (with_reducible first | exact HB.out | apply below_alloc | apply pw_below_drewN | apply below_drew1) | exact HB.out)⟩
  · rw [if_neg c2] at H
    have c2b0 : decide (1048576 < (l0.length : Int)) = false := decide_eq_false c2
    have c2b1 : decide (1048576 < l0.length) = false := decide_eq_false (by omega)
    clear c2
    replace H := Option.bind_eq_some_iff.mp H
    obtain ⟨⟨t1215, t1218⟩, A30, H⟩ := H
    replace H : ((spec_MakeSlope.f k l0 40).bind fun bt1222 => ((spec_MakeNum.f k l0 60).bind fun t1224 => (if (t1215.length : Int) = 0 then (none) else ((impl_PathSquares.f k t1215 t1218 (Int.tmod t1224 (t1215.length : Int)) bt1222.1 bt1222.2).bind fun bt1225 => ((impl_PathRounds.f k t1215 t1218 (Int.tmod t1224 (t1215.length : Int)) bt1222.1 bt1222.2).bind fun t1229 => ((impl_PathText.f k t1215 t1218 (Int.tmod t1224 (t1215.length : Int)) bt1222.1 bt1222.2).bind fun t1230 => ((impl_Visits.f k t1215 t1218 (Int.tmod t1224 (t1215.length : Int)) bt1222.1 bt1222.2).bind fun t1231 => (if bt1225.2 = true then (if t1229 < 1 then (laws_FnPaths.j0 k bt1225.1 t1230 t1231 true t1215 t1218) else (if t1229 > (t1215.length : Int) then (laws_FnPaths.j0 k bt1225.1 t1230 t1231 true t1215 t1218) else (if (bt1225.1.length : Int) = (wrap64 (t1229 * (wrap64 (bt1222.1 + bt1222.2)))) then (if (t1230.size : Int) = (bt1225.1.length : Int) then ((laws_total.f k t1231).bind fun t1234 => (if t1234 = (bt1225.1.length : Int) then (if (t1231.length : Int) = (t1215.length : Int) then (if 0 < (bt1225.1.length : Int) then (laws_FnPaths.j0 k bt1225.1 t1230 t1231 ((rd bt1225.1 0) != (Int.tmod t1224 (t1215.length : Int))) t1215 t1218) else (none)) else (laws_FnPaths.j0 k bt1225.1 t1230 t1231 true t1215 t1218)) else (laws_FnPaths.j0 k bt1225.1 t1230 t1231 true t1215 t1218))) else (laws_FnPaths.j0 k bt1225.1 t1230 t1231 true t1215 t1218)) else (laws_FnPaths.j0 k bt1225.1 t1230 t1231 true t1215 t1218)))) else (laws_FnPaths.j0 k bt1225.1 t1230 t1231 true t1215 t1218))))))))) = some r := H
    have A3 := Aside0.mk A30
    clear A30
    replace H := Option.bind_eq_some_iff.mp H
    obtain ⟨⟨t1222, t1223⟩, A40, H⟩ := H
    replace H : ((spec_MakeNum.f k l0 60).bind fun t1224 => (if (t1215.length : Int) = 0 then (none) else ((impl_PathSquares.f k t1215 t1218 (Int.tmod t1224 (t1215.length : Int)) t1222 t1223).bind fun bt1225 => ((impl_PathRounds.f k t1215 t1218 (Int.tmod t1224 (t1215.length : Int)) t1222 t1223).bind fun t1229 => ((impl_PathText.f k t1215 t1218 (Int.tmod t1224 (t1215.length : Int)) t1222 t1223).bind fun t1230 => ((impl_Visits.f k t1215 t1218 (Int.tmod t1224 (t1215.length : Int)) t1222 t1223).bind fun t1231 => (if bt1225.2 = true then (if t1229 < 1 then (laws_FnPaths.j0 k bt1225.1 t1230 t1231 true t1215 t1218) else (if t1229 > (t1215.length : Int) then (laws_FnPaths.j0 k bt1225.1 t1230 t1231 true t1215 t1218) else (if (bt1225.1.length : Int) = (wrap64 (t1229 * (wrap64 (t1222 + t1223)))) then (if (t1230.size : Int) = (bt1225.1.length : Int) then ((laws_total.f k t1231).bind fun t1234 => (if t1234 = (bt1225.1.length : Int) then (if (t1231.length : Int) = (t1215.length : Int) then (if 0 < (bt1225.1.length : Int) then (laws_FnPaths.j0 k bt1225.1 t1230 t1231 ((rd bt1225.1 0) != (Int.tmod t1224 (t1215.length : Int))) t1215 t1218) else (none)) else (laws_FnPaths.j0 k bt1225.1 t1230 t1231 true t1215 t1218)) else (laws_FnPaths.j0 k bt1225.1 t1230 t1231 true t1215 t1218))) else (laws_FnPaths.j0 k bt1225.1 t1230 t1231 true t1215 t1218)) else (laws_FnPaths.j0 k bt1225.1 t1230 t1231 true t1215 t1218)))) else (laws_FnPaths.j0 k bt1225.1 t1230 t1231 true t1215 t1218)))))))) = some r := H
    have A4 := Aside0.mk A40
    clear A40
    replace H := Option.bind_eq_some_iff.mp H
    obtain ⟨t1224, A50, H⟩ := H
    replace H : (if (t1215.length : Int) = 0 then (none) else ((impl_PathSquares.f k t1215 t1218 (Int.tmod t1224 (t1215.length : Int)) t1222 t1223).bind fun bt1225 => ((impl_PathRounds.f k t1215 t1218 (Int.tmod t1224 (t1215.length : Int)) t1222 t1223).bind fun t1229 => ((impl_PathText.f k t1215 t1218 (Int.tmod t1224 (t1215.length : Int)) t1222 t1223).bind fun t1230 => ((impl_Visits.f k t1215 t1218 (Int.tmod t1224 (t1215.length : Int)) t1222 t1223).bind fun t1231 => (if bt1225.2 = true then (if t1229 < 1 then (laws_FnPaths.j0 k bt1225.1 t1230 t1231 true t1215 t1218) else (if t1229 > (t1215.length : Int) then (laws_FnPaths.j0 k bt1225.1 t1230 t1231 true t1215 t1218) else (if (bt1225.1.length : Int) = (wrap64 (t1229 * (wrap64 (t1222 + t1223)))) then (if (t1230.size : Int) = (bt1225.1.length : Int) then ((laws_total.f k t1231).bind fun t1234 => (if t1234 = (bt1225.1.length : Int) then (if (t1231.length : Int) = (t1215.length : Int) then (if 0 < (bt1225.1.length : Int) then (laws_FnPaths.j0 k bt1225.1 t1230 t1231 ((rd bt1225.1 0) != (Int.tmod t1224 (t1215.length : Int))) t1215 t1218) else (none)) else (laws_FnPaths.j0 k bt1225.1 t1230 t1231 true t1215 t1218)) else (laws_FnPaths.j0 k bt1225.1 t1230 t1231 true t1215 t1218))) else (laws_FnPaths.j0 k bt1225.1 t1230 t1231 true t1215 t1218)) else (laws_FnPaths.j0 k bt1225.1 t1230 t1231 true t1215 t1218)))) else (laws_FnPaths.j0 k bt1225.1 t1230 t1231 true t1215 t1218))))))) = some r := H
    have A5 := Aside0.mk A50
    clear A50
    by_cases c6 : (t1215.length : Int) = 0
    · rw [if_pos c6] at H
      exact absurd H (by simp)
    · rw [if_neg c6] at H
      have c6b0 : ((t1215.length : Int) == 0) = false := beq_eq_false_iff_ne.mpr c6
      have c6b1 : ((t1215.length : Int) != 0) = true := bne_iff_ne.mpr c6
      have c6b2 : ¬ (t1215 = []) := fun h_ => c6 (by rw [h_]; rfl)
      replace H := Option.bind_eq_some_iff.mp H
      obtain ⟨⟨t1225, t1228⟩, A70, H⟩ := H
      replace H : ((impl_PathRounds.f k t1215 t1218 (Int.tmod t1224 (t1215.length : Int)) t1222 t1223).bind fun t1229 => ((impl_PathText.f k t1215 t1218 (Int.tmod t1224 (t1215.length : Int)) t1222 t1223).bind fun t1230 => ((impl_Visits.f k t1215 t1218 (Int.tmod t1224 (t1215.length : Int)) t1222 t1223).bind fun t1231 => (if t1228 = true then (if t1229 < 1 then (laws_FnPaths.j0 k t1225 t1230 t1231 true t1215 t1218) else (if t1229 > (t1215.length : Int) then (laws_FnPaths.j0 k t1225 t1230 t1231 true t1215 t1218) else (if (t1225.length : Int) = (wrap64 (t1229 * (wrap64 (t1222 + t1223)))) then (if (t1230.size : Int) = (t1225.length : Int) then ((laws_total.f k t1231).bind fun t1234 => (if t1234 = (t1225.length : Int) then (if (t1231.length : Int) = (t1215.length : Int) then (if 0 < (t1225.length : Int) then (laws_FnPaths.j0 k t1225 t1230 t1231 ((rd t1225 0) != (Int.tmod t1224 (t1215.length : Int))) t1215 t1218) else (none)) else (laws_FnPaths.j0 k t1225 t1230 t1231 true t1215 t1218)) else (laws_FnPaths.j0 k t1225 t1230 t1231 true t1215 t1218))) else (laws_FnPaths.j0 k t1225 t1230 t1231 true t1215 t1218)) else (laws_FnPaths.j0 k t1225 t1230 t1231 true t1215 t1218)))) else (laws_FnPaths.j0 k t1225 t1230 t1231 true t1215 t1218))))) = some r := H
      have A7 := Aside0.mk A70
      clear A70
      replace H := Option.bind_eq_some_iff.mp H
      obtain ⟨t1229, A80, H⟩ := H
      replace H : ((impl_PathText.f k t1215 t1218 (Int.tmod t1224 (t1215.length : Int)) t1222 t1223).bind fun t1230 => ((impl_Visits.f k t1215 t1218 (Int.tmod t1224 (t1215.length : Int)) t1222 t1223).bind fun t1231 => (if t1228 = true then (if t1229 < 1 then (laws_FnPaths.j0 k t1225 t1230 t1231 true t1215 t1218) else (if t1229 > (t1215.length : Int) then (laws_FnPaths.j0 k t1225 t1230 t1231 true t1215 t1218) else (if (t1225.length : Int) = (wrap64 (t1229 * (wrap64 (t1222 + t1223)))) then (if (t1230.size : Int) = (t1225.length : Int) then ((laws_total.f k t1231).bind fun t1234 => (if t1234 = (t1225.length : Int) then (if (t1231.length : Int) = (t1215.length : Int) then (if 0 < (t1225.length : Int) then (laws_FnPaths.j0 k t1225 t1230 t1231 ((rd t1225 0) != (Int.tmod t1224 (t1215.length : Int))) t1215 t1218) else (none)) else (laws_FnPaths.j0 k t1225 t1230 t1231 true t1215 t1218)) else (laws_FnPaths.j0 k t1225 t1230 t1231 true t1215 t1218))) else (laws_FnPaths.j0 k t1225 t1230 t1231 true t1215 t1218)) else (laws_FnPaths.j0 k t1225 t1230 t1231 true t1215 t1218)))) else (laws_FnPaths.j0 k t1225 t1230 t1231 true t1215 t1218)))) = some r := H
      have A8 := Aside0.mk A80
      clear A80
      replace H := Option.bind_eq_some_iff.mp H
      obtain ⟨t1230, A90, H⟩ := H
      replace H : ((impl_Visits.f k t1215 t1218 (Int.tmod t1224 (t1215.length : Int)) t1222 t1223).bind fun t1231 => (if t1228 = true then (if t1229 < 1 then (laws_FnPaths.j0 k t1225 t1230 t1231 true t1215 t1218) else (if t1229 > (t1215.length : Int) then (laws_FnPaths.j0 k t1225 t1230 t1231 true t1215 t1218) else (if (t1225.length : Int) = (wrap64 (t1229 * (wrap64 (t1222 + t1223)))) then (if (t1230.size : Int) = (t1225.length : Int) then ((laws_total.f k t1231).bind fun t1234 => (if t1234 = (t1225.length : Int) then (if (t1231.length : Int) = (t1215.length : Int) then (if 0 < (t1225.length : Int) then (laws_FnPaths.j0 k t1225 t1230 t1231 ((rd t1225 0) != (Int.tmod t1224 (t1215.length : Int))) t1215 t1218) else (none)) else (laws_FnPaths.j0 k t1225 t1230 t1231 true t1215 t1218)) else (laws_FnPaths.j0 k t1225 t1230 t1231 true t1215 t1218))) else (laws_FnPaths.j0 k t1225 t1230 t1231 true t1215 t1218)) else (laws_FnPaths.j0 k t1225 t1230 t1231 true t1215 t1218)))) else (laws_FnPaths.j0 k t1225 t1230 t1231 true t1215 t1218))) = some r := H
      have A9 := Aside0.mk A90
      clear A90
      replace H := Option.bind_eq_some_iff.mp H
      obtain ⟨t1231, A100, H⟩ := H
      replace H : (if t1228 = true then (if t1229 < 1 then (laws_FnPaths.j0 k t1225 t1230 t1231 true t1215 t1218) else (if t1229 > (t1215.length : Int) then (laws_FnPaths.j0 k t1225 t1230 t1231 true t1215 t1218) else (if (t1225.length : Int) = (wrap64 (t1229 * (wrap64 (t1222 + t1223)))) then (if (t1230.size : Int) = (t1225.length : Int) then ((laws_total.f k t1231).bind fun t1234 => (if t1234 = (t1225.length : Int) then (if (t1231.length : Int) = (t1215.length : Int) then (if 0 < (t1225.length : Int) then (laws_FnPaths.j0 k t1225 t1230 t1231 ((rd t1225 0) != (Int.tmod t1224 (t1215.length : Int))) t1215 t1218) else (none)) else (laws_FnPaths.j0 k t1225 t1230 t1231 true t1215 t1218)) else (laws_FnPaths.j0 k t1225 t1230 t1231 true t1215 t1218))) else (laws_FnPaths.j0 k t1225 t1230 t1231 true t1215 t1218)) else (laws_FnPaths.j0 k t1225 t1230 t1231 true t1215 t1218)))) else (laws_FnPaths.j0 k t1225 t1230 t1231 true t1215 t1218)) = some r := H
      have A10 := Aside0.mk A100
      clear A100
      have HC11 := Aside0.mk H
      clear H
      go_enter Try.func10, Try.ntmps10
      try go_wp2_with (first | ((with_reducible refine gate_callee (f := 27) rfl ?_); refine goesL_ (some 19) rfl rfl Try.func27 (by kernel_rfl) rfl #[.slice A0 l0.length c0] rfl (by (try simp only [List.map_toArray, List.map_cons, List.map_nil]); first | done | rfl | (simp only [List.length_drop, List.length_take]; rfl)) ?_; (with_reducible refine (spec_MakeSurface.calls k _ _ l0 t1215 t1218 _ ?side1 ?side2 A3.out).mono ?_); (case side1 => repeat (first | exact HR0.out | (with_reducible refine Kd.C_alloc ?_ _) | (with_reducible refine Kd.C_drewN ?_ _) | (with_reducible refine Kd.C_drew ?_))); (case side2 => exact HC0.out); rintro e w12 ⟨v1216, v1219, rfl, ho0, ho1, hb⟩; refine ⟨_, rfl, ?_⟩; have n0_ := Aside0.mk (Kd.R_lower ho0 (below_size (by repeat (first | (with_reducible first | exact HB.out | apply below_alloc | apply pw_below_drewN | apply below_drew1) | exact HB.out)))); have n1_ := Aside0.mk (Kd.R_lower ho1 (below_size (by repeat (first | (with_reducible first | exact HB.out | apply below_alloc | apply pw_below_drewN | apply below_drew1) | exact HB.out)))); have n2_ := Aside0.mk (below_step (by repeat (first | (with_reducible first | exact HB.out | apply below_alloc | apply pw_below_drewN | apply below_drew1) | exact HB.out)) hb); clear HB; have HO1217 := n0_; have HO1220 := n1_; have HB := n2_; clear n0_ n1_ n2_; (try clear hb); (try clear hb2); (try clear hk); (try clear hi); (try clear ho0); (try clear ho1)) | ((with_reducible refine gate_dst (N := 3) rfl ?_); (try (refine gate_guard (by rfl) ?_; dsimp only)); refine box_event ?hg (N := 3) ?hd (cs := #[.slice none 0 0, .slice none 0 0]) (t := 27) ?hr ?_; (case hd => rfl); (case hg => rfl); (case hr => first | (go_simp; done) | (go_simp; rfl)); intro gb1221 hg w13 hbox hb; have n0_ := Aside0.mk (Kd.R_below (by (with_reducible repeat (first | apply Kd.R_alloc | apply Kd.R_drewN | apply Kd.R_drew)); exact HO1217.out) hb); have n1_ := Aside0.mk (Kd.R_below (by (with_reducible repeat (first | apply Kd.R_alloc | apply Kd.R_drewN | apply Kd.R_drew)); exact HO1220.out) hb); have n2_ := Aside0.mk (below_step (by repeat (first | (with_reducible first | exact HB.out | apply below_alloc | apply pw_below_drewN | apply below_drew1) | exact HB.out)) hb); have n3_ := Aside0.mk (hbox); have n4_ := Aside0.mk ((by rw [hg]; exact (below_size (by repeat (first | (with_reducible first | exact HB.out | apply below_alloc | apply pw_below_drewN | apply below_drew1) | exact HB.out))) : w.heap.size ≤ gb1221)); have n5_ := Aside0.mk ((by rw [hg]; exact (below_size (by repeat (first | (with_reducible first | exact HB.out | apply below_alloc | apply pw_below_drewN | apply below_drew1) | exact HB.out))) : w.heap.size ≤ gb1221)); clear HO1217; clear HO1220; clear HB; have HO1217 := n0_; have HO1220 := n1_; have HB := n2_; have BK1221 := n3_; have GW1221 := n4_; have GE1221 := n5_; clear n0_ n1_ n2_ n3_ n4_ n5_; clear hb hbox hg; obtain ⟨Ao14, co14, eo14⟩ := Kd.R_slice HO1217.out; subst eo14; have hcz15_0 : w13.cell? ⟨gb1221, 0, none⟩ = some (.slice none 0 0) := (blk_cell BK1221.out 0).trans rfl; have hcz15_1 : w13.cell? ⟨gb1221, 1, none⟩ = some (.slice none 0 0) := (blk_cell BK1221.out 1).trans rfl; have hfz15_0 := blk_frozen BK1221.out 0; have hfz15_1 := blk_frozen BK1221.out 1; obtain ⟨Ao16, co16, eo16⟩ := Kd.R_slice HO1220.out; subst eo16) | ((with_reducible refine gate_callee (f := 41) rfl ?_); refine goesL_ (some 22) rfl rfl Try.func41 (by kernel_rfl) rfl #[.slice A0 l0.length c0, .int .i64 40] rfl (by (try simp only [List.map_toArray, List.map_cons, List.map_nil]); first | done | rfl | (simp only [List.length_drop, List.length_take]; rfl)) ?_; (with_reducible refine (spec_MakeSlope.calls k _ _ l0 40 t1222 t1223 _ ?side1 ?side2 A4.out).mono ?_); (case side1 => exact Kd.C_below HR0.out (by repeat (first | (with_reducible first | exact HB.out | apply below_alloc | apply pw_below_drewN | apply below_drew1 | refine below_set ?_ GE1221.out) | exact HB.out))); (case side2 => exact HC0.out); rintro e w17 ⟨rfl, hb⟩; refine ⟨_, rfl, ?_⟩; have n0_ := Aside0.mk (Kd.R_below (by (with_reducible repeat (first | apply Kd.R_alloc | apply Kd.R_drewN | apply Kd.R_drew)); exact (Kd.R_mono (Kd.R_far (p := ⟨gb1221, 1, none⟩) (Kd.R_far (p := ⟨gb1221, 0, none⟩) (Kd.R_types HO1217.out BK1221.out (by decide)) (fun _ hk => hk.2) (.slice Ao14 t1215.length co14)) (fun _ hk => hk.2) (.slice Ao16 t1218.length co16)) (fun _ h_ => h_.1))) hb); have n1_ := Aside0.mk (Kd.R_below (by (with_reducible repeat (first | apply Kd.R_alloc | apply Kd.R_drewN | apply Kd.R_drew)); exact (Kd.R_mono (Kd.R_far (p := ⟨gb1221, 1, none⟩) (Kd.R_far (p := ⟨gb1221, 0, none⟩) (Kd.R_types HO1220.out BK1221.out (by decide)) (fun _ hk => hk.2) (.slice Ao14 t1215.length co14)) (fun _ hk => hk.2) (.slice Ao16 t1218.length co16)) (fun _ h_ => h_.1))) hb); have n2_ := Aside0.mk (blk_below (g := gb1221) (o := .cells #[.slice Ao14 t1215.length co14, .slice Ao16 t1218.length co16] 27 (0, 0)) (by (with_reducible repeat (first | refine blk_drewN ?_ _ | refine blk_drew ?_ | refine blk_alloc ?_ _)); refine blk_put (cs := #[.slice Ao14 t1215.length co14, .slice none 0 0]) ?_ 1 _ rfl; (with_reducible repeat (first | refine blk_drewN ?_ _ | refine blk_drew ?_ | refine blk_alloc ?_ _)); refine blk_put (cs := #[.slice none 0 0, .slice none 0 0]) ?_ 0 _ rfl; (with_reducible repeat (first | refine blk_drewN ?_ _ | refine blk_drew ?_ | refine blk_alloc ?_ _)); exact BK1221.out) hb); have n3_ := Aside0.mk (below_step (by repeat (first | (with_reducible first | exact HB.out | apply below_alloc | apply pw_below_drewN | apply below_drew1 | refine below_set ?_ GE1221.out) | exact HB.out)) hb); clear HO1217; clear HO1220; clear BK1221; clear HB; have HO1217 := n0_; have HO1220 := n1_; have BK1221 := n2_; have HB := n3_; clear n0_ n1_ n2_ n3_; (try clear hb); (try clear hb2); (try clear hk); (try clear hi)))
      have n0_ := Aside0.mk (Kd.R_drew HO1217.out)
      have n1_ := Aside0.mk (Kd.R_drew HO1220.out)
      have n2_ := Aside0.mk (blk_drew BK1221.out)
      have n3_ := Aside0.mk (below_drew1 HB.out)
      clear HO1217
      clear HO1220
      clear BK1221
      clear HB
      have HO1217 := n0_
      have HO1220 := n1_
      have BK1221 := n2_
      have HB := n3_
      clear n0_ n1_ n2_ n3_
      refine start_ (n := 7) (S := fun w' => w'.cell? ⟨gb1221, 0, none⟩ = some (.slice Ao14 t1215.length co14) ∧ w'.cell? ⟨gb1221, 1, none⟩ = some (.slice Ao16 t1218.length co16)) (ds := []) #[false, false, false, false, false, false, false] (by kernel_rfl) rfl rfl ⟨(blk_cell BK1221.out 0).trans rfl, (blk_cell BK1221.out 1).trans rfl⟩ (fun hHeld => ?_)
      generalize w17.drew = w18 at HO1217 HO1220 BK1221 HB hHeld ⊢
      refine pure_ (i := 0) (N := some 25) (v := ?_) (a' := ?_) #[true, false, false, false, false, false, false] rfl rfl (by kernel_rfl) (fun _ _ _ h => h) (Or.inl ⟨by rfl, ?_⟩) ?_ ?_
      rotate_left
      · intro w'
        go_simp
        with_reducible rfl
      rotate_left
      · simp only [Act.put, List.setIfInBounds_toArray, List.set_cons_zero, List.set_cons_succ, i64_w, i32_w]
        rfl
      refine pure_ (i := 2) (N := some 27) (v := ?_) (a' := ?_) #[true, false, true, false, false, false, false] rfl rfl (by kernel_rfl) (fun _ _ _ h => h) (Or.inl ⟨by rfl, ?_⟩) ?_ ?_
      rotate_left
      · intro w'
        go_simp
        with_reducible rfl
      rotate_left
      · simp only [Act.put, List.setIfInBounds_toArray, List.set_cons_zero, List.set_cons_succ, i64_w, i32_w]
        rfl
      refine take_ (i := 3) (N := some 28) (v := ?_) (a' := ?_) #[true, false, true, true, false, false, false] rfl rfl (by kernel_rfl) (fun _ _ _ h => h) (Or.inl ⟨by rfl, ?_⟩) hHeld ?_ ?_
      rotate_left
      · rintro w' ⟨s0, s1⟩
        go_simp
        with_reducible rfl
      rotate_left
      · simp only [Act.put, List.setIfInBounds_toArray, List.set_cons_zero, List.set_cons_succ, i64_w, i32_w]
        rfl
      refine pure_ (i := 4) (N := some 29) (v := ?_) (a' := ?_) #[true, false, true, true, true, false, false] rfl rfl (by kernel_rfl) (fun _ _ _ h => h) (Or.inl ⟨by rfl, ?_⟩) ?_ ?_
      rotate_left
      · intro w'
        go_simp
        with_reducible rfl
      rotate_left
      · simp only [Act.put, List.setIfInBounds_toArray, List.set_cons_zero, List.set_cons_succ, i64_w, i32_w]
        rfl
      refine one_ (i := 1) (N := some 26) #[true, true, true, true, true, false, false] rfl rfl (by kernel_rfl) (by decide) (fun K hK => ?_)
      refine goes_ Try.func42 (by kernel_rfl) rfl #[.slice A0 l0.length c0, .int .i64 60] (by rfl) rfl rfl (by (try simp only [List.map_toArray, List.map_cons, List.map_nil]); first | done | rfl | (simp only [List.length_drop, List.length_take]; rfl)) ?_
      with_reducible refine (spec_MakeNum.calls k _ _ l0 60 t1224 _ ?side1 ?side2 A5.out).mono ?_
      (case side1 => repeat (first | exact (Kd.C_below HR0.out HB.out) | (with_reducible refine Kd.C_alloc ?_ _) | (with_reducible refine Kd.C_drewN ?_ _) | (with_reducible refine Kd.C_drew ?_)))
      (case side2 => exact HC0.out)
      rintro e w19 ⟨rfl, hb⟩
      refine ⟨_, rfl, ?_⟩
      have n0_ := Aside0.mk (Kd.R_below (by (with_reducible repeat (first | apply Kd.R_alloc | apply Kd.R_drewN | apply Kd.R_drew)); exact HO1217.out) hb)
      have n1_ := Aside0.mk (Kd.R_below (by (with_reducible repeat (first | apply Kd.R_alloc | apply Kd.R_drewN | apply Kd.R_drew)); exact HO1220.out) hb)
      have n2_ := Aside0.mk (blk_below (g := gb1221) (o := .cells #[.slice Ao14 t1215.length co14, .slice Ao16 t1218.length co16] 27 (0, 0)) (by (with_reducible repeat (first | refine blk_drewN ?_ _ | refine blk_drew ?_ | refine blk_alloc ?_ _)); exact BK1221.out) hb)
      have n3_ := Aside0.mk (below_step (by repeat (first | (with_reducible first | exact HB.out | apply below_alloc | apply pw_below_drewN | apply below_drew1 | refine below_set ?_ GE1221.out) | exact HB.out)) hb)
      clear HO1217
      clear HO1220
      clear BK1221
      clear HB
      have HO1217 := n0_
      have HO1220 := n1_
      have BK1221 := n2_
      have HB := n3_
      clear n0_ n1_ n2_ n3_
      (try clear hb)
      (try clear hb2)
      (try clear hk)
      (try clear hi)
      refine hK.out _ _ ⟨(blk_cell BK1221.out 0).trans rfl, (blk_cell BK1221.out 1).trans rfl⟩ (fun hHeld => ?_)
      clear hK K
      refine norm_ (a' := ?_) ?_ ?_
      rotate_left
      · show Act.put _ (some 26) _ = _
        simp only [Act.put, List.setIfInBounds_toArray, List.set_cons_zero, List.set_cons_succ, i64_w, i32_w]
        rfl
      refine pure_ (i := 5) (N := some 30) (v := ?_) (a' := ?_) #[true, true, true, true, true, true, false] rfl rfl (by kernel_rfl) (fun _ _ _ h => h) (Or.inl ⟨by rfl, ?_⟩) ?_ ?_
      rotate_left
      · intro w'
        go_simp
        with_reducible rfl
      rotate_left
      · simp only [Act.put, List.setIfInBounds_toArray, List.set_cons_zero, List.set_cons_succ, i64_w, i32_w]
        rfl
      refine pure_ (i := 6) (N := some 6) (v := ?_) (a' := ?_) #[true, true, true, true, true, true, true] rfl rfl (by kernel_rfl) (fun _ _ _ h => h) (Or.inl ⟨by rfl, ?_⟩) ?_ ?_
      rotate_left
      · intro w'
        go_simp
        with_reducible rfl
      rotate_left
      · simp only [Act.put, List.setIfInBounds_toArray, List.set_cons_zero, List.set_cons_succ, i64_w, i32_w]
        rfl
      refine done_ (by kernel_rfl) ?_
      have hcz20_0 : w19.cell? ⟨gb1221, 0, none⟩ = some (.slice Ao14 t1215.length co14) := (blk_cell BK1221.out 0).trans rfl
      have hcz20_1 : w19.cell? ⟨gb1221, 1, none⟩ = some (.slice Ao16 t1218.length co16) := (blk_cell BK1221.out 1).trans rfl
      have hfz20_0 := blk_frozen BK1221.out 0
      have hfz20_1 := blk_frozen BK1221.out 1
      go_upto_region 10 with (first | ((with_reducible refine gate_callee (f := 35) rfl ?_); refine goesL_ (some 36) rfl rfl Try.func35 (by kernel_rfl) rfl #[.agg #[.slice Ao14 t1215.length co14, .slice Ao16 t1218.length co16], .int .i64 (Int.tmod t1224 (t1215.length : Int)), .int .i64 t1222, .int .i64 t1223] rfl (by (try simp only [List.map_toArray, List.map_cons, List.map_nil]); first | done | rfl | (simp only [List.length_drop, List.length_take]; rfl)) ?_; (with_reducible refine (impl_PathSquares.calls k _ _ t1215 _ _ t1218 (Int.tmod t1224 (t1215.length : Int)) t1222 t1223 t1225 t1228 _ ?side1 ?side2 ?side3 ?side4 A7.out).mono ?_); (case side1 => repeat (first | exact (Kd.R_reads' HO1217.out).2.2 | (with_reducible refine Kd.C_alloc ?_ _) | (with_reducible refine Kd.C_drewN ?_ _) | (with_reducible refine Kd.C_drew ?_))); (case side2 => exact (Kd.R_reads' HO1217.out).2.1); (case side3 => repeat (first | exact (Kd.R_reads' HO1220.out).2.2 | (with_reducible refine Kd.C_alloc ?_ _) | (with_reducible refine Kd.C_drewN ?_ _) | (with_reducible refine Kd.C_drew ?_))); (case side4 => exact (Kd.R_reads' HO1220.out).2.1); rintro e w21 ⟨v1226, rfl, ho0, hb⟩; refine ⟨_, rfl, ?_⟩; have n0_ := Aside0.mk (Kd.R_elder' (by (with_reducible repeat (first | apply Kd.R_alloc | apply Kd.R_drewN | apply Kd.R_drew)); exact HO1217.out) (Kd.R_base ho0) hb); have n1_ := Aside0.mk (Kd.R_elder' (by (with_reducible repeat (first | apply Kd.R_alloc | apply Kd.R_drewN | apply Kd.R_drew)); exact HO1220.out) (Kd.R_base ho0) hb); have n2_ := Aside0.mk (Kd.R_lower (Kd.R_new' (Kd.R_new' ho0 (Kd.R_lt (by (with_reducible repeat (first | apply Kd.R_alloc | apply Kd.R_drewN | apply Kd.R_drew)); exact HO1217.out))) (Kd.R_lt (by (with_reducible repeat (first | apply Kd.R_alloc | apply Kd.R_drewN | apply Kd.R_drew)); exact HO1220.out))) (below_size (by repeat (first | (with_reducible first | exact HB.out | apply below_alloc | apply pw_below_drewN | apply below_drew1 | refine below_set ?_ GE1221.out) | exact HB.out)))); have n3_ := Aside0.mk (blk_below (g := gb1221) (o := .cells #[.slice Ao14 t1215.length co14, .slice Ao16 t1218.length co16] 27 (0, 0)) (by (with_reducible repeat (first | refine blk_drewN ?_ _ | refine blk_drew ?_ | refine blk_alloc ?_ _)); exact BK1221.out) hb); have n4_ := Aside0.mk (below_step (by repeat (first | (with_reducible first | exact HB.out | apply below_alloc | apply pw_below_drewN | apply below_drew1 | refine below_set ?_ GE1221.out) | exact HB.out)) hb); clear HO1217; clear HO1220; clear BK1221; clear HB; have HO1217 := n0_; have HO1220 := n1_; have HO1227 := n2_; have BK1221 := n3_; have HB := n4_; clear n0_ n1_ n2_ n3_ n4_; (try clear hb); (try clear hb2); (try clear hk); (try clear hi); (try clear ho0); have hcz22_0 : w21.cell? ⟨gb1221, 0, none⟩ = some (.slice Ao14 t1215.length co14) := (blk_cell BK1221.out 0).trans rfl; have hcz22_1 : w21.cell? ⟨gb1221, 1, none⟩ = some (.slice Ao16 t1218.length co16) := (blk_cell BK1221.out 1).trans rfl; have hfz22_0 := blk_frozen BK1221.out 0; have hfz22_1 := blk_frozen BK1221.out 1) | ((with_reducible refine gate_callee (f := 43) rfl ?_); refine goesL_ (some 43) rfl rfl Try.func43 (by kernel_rfl) rfl #[.agg #[.slice Ao14 t1215.length co14, .slice Ao16 t1218.length co16], .int .i64 (Int.tmod t1224 (t1215.length : Int)), .int .i64 t1222, .int .i64 t1223] rfl (by (try simp only [List.map_toArray, List.map_cons, List.map_nil]); first | done | rfl | (simp only [List.length_drop, List.length_take]; rfl)) ?_; (with_reducible refine (impl_PathRounds.calls k _ _ t1215 _ _ t1218 (Int.tmod t1224 (t1215.length : Int)) t1222 t1223 t1229 _ ?side1 ?side2 ?side3 ?side4 A8.out).mono ?_); (case side1 => repeat (first | exact (Kd.R_reads' HO1217.out).2.2 | (with_reducible refine Kd.C_alloc ?_ _) | (with_reducible refine Kd.C_drewN ?_ _) | (with_reducible refine Kd.C_drew ?_))); (case side2 => exact (Kd.R_reads' HO1217.out).2.1); (case side3 => repeat (first | exact (Kd.R_reads' HO1220.out).2.2 | (with_reducible refine Kd.C_alloc ?_ _) | (with_reducible refine Kd.C_drewN ?_ _) | (with_reducible refine Kd.C_drew ?_))); (case side4 => exact (Kd.R_reads' HO1220.out).2.1); rintro e w23 ⟨rfl, hb⟩; refine ⟨_, rfl, ?_⟩; have n0_ := Aside0.mk (Kd.R_below (by (with_reducible repeat (first | apply Kd.R_alloc | apply Kd.R_drewN | apply Kd.R_drew)); exact HO1217.out) hb); have n1_ := Aside0.mk (Kd.R_below (by (with_reducible repeat (first | apply Kd.R_alloc | apply Kd.R_drewN | apply Kd.R_drew)); exact HO1220.out) hb); have n2_ := Aside0.mk (Kd.R_below (by (with_reducible repeat (first | apply Kd.R_alloc | apply Kd.R_drewN | apply Kd.R_drew)); exact HO1227.out) hb); have n3_ := Aside0.mk (blk_below (g := gb1221) (o := .cells #[.slice Ao14 t1215.length co14, .slice Ao16 t1218.length co16] 27 (0, 0)) (by (with_reducible repeat (first | refine blk_drewN ?_ _ | refine blk_drew ?_ | refine blk_alloc ?_ _)); exact BK1221.out) hb); have n4_ := Aside0.mk (below_step (by repeat (first | (with_reducible first | exact HB.out | apply below_alloc | apply pw_below_drewN | apply below_drew1 | refine below_set ?_ GE1221.out) | exact HB.out)) hb); clear HO1217; clear HO1220; clear HO1227; clear BK1221; clear HB; have HO1217 := n0_; have HO1220 := n1_; have HO1227 := n2_; have BK1221 := n3_; have HB := n4_; clear n0_ n1_ n2_ n3_ n4_; (try clear hb); (try clear hb2); (try clear hk); (try clear hi); have hcz24_0 : w23.cell? ⟨gb1221, 0, none⟩ = some (.slice Ao14 t1215.length co14) := (blk_cell BK1221.out 0).trans rfl; have hcz24_1 : w23.cell? ⟨gb1221, 1, none⟩ = some (.slice Ao16 t1218.length co16) := (blk_cell BK1221.out 1).trans rfl; have hfz24_0 := blk_frozen BK1221.out 0; have hfz24_1 := blk_frozen BK1221.out 1) | ((with_reducible refine gate_callee (f := 33) rfl ?_); refine goesL_ (some 48) rfl rfl Try.func33 (by kernel_rfl) rfl #[.agg #[.slice Ao14 t1215.length co14, .slice Ao16 t1218.length co16], .int .i64 (Int.tmod t1224 (t1215.length : Int)), .int .i64 t1222, .int .i64 t1223] rfl (by (try simp only [List.map_toArray, List.map_cons, List.map_nil]); first | done | rfl | (simp only [List.length_drop, List.length_take]; rfl)) ?_; (with_reducible refine (impl_PathText.calls k _ _ t1215 _ _ t1218 (Int.tmod t1224 (t1215.length : Int)) t1222 t1223 t1230 _ ?side1 ?side2 ?side3 ?side4 A9.out).mono ?_); (case side1 => repeat (first | exact (Kd.R_reads' HO1217.out).2.2 | (with_reducible refine Kd.C_alloc ?_ _) | (with_reducible refine Kd.C_drewN ?_ _) | (with_reducible refine Kd.C_drew ?_))); (case side2 => exact (Kd.R_reads' HO1217.out).2.1); (case side3 => repeat (first | exact (Kd.R_reads' HO1220.out).2.2 | (with_reducible refine Kd.C_alloc ?_ _) | (with_reducible refine Kd.C_drewN ?_ _) | (with_reducible refine Kd.C_drew ?_))); (case side4 => exact (Kd.R_reads' HO1220.out).2.1); rintro e w25 ⟨rfl, hb⟩; refine ⟨_, rfl, ?_⟩; have n0_ := Aside0.mk (Kd.R_below (by (with_reducible repeat (first | apply Kd.R_alloc | apply Kd.R_drewN | apply Kd.R_drew)); exact HO1217.out) hb); have n1_ := Aside0.mk (Kd.R_below (by (with_reducible repeat (first | apply Kd.R_alloc | apply Kd.R_drewN | apply Kd.R_drew)); exact HO1220.out) hb); have n2_ := Aside0.mk (Kd.R_below (by (with_reducible repeat (first | apply Kd.R_alloc | apply Kd.R_drewN | apply Kd.R_drew)); exact HO1227.out) hb); have n3_ := Aside0.mk (blk_below (g := gb1221) (o := .cells #[.slice Ao14 t1215.length co14, .slice Ao16 t1218.length co16] 27 (0, 0)) (by (with_reducible repeat (first | refine blk_drewN ?_ _ | refine blk_drew ?_ | refine blk_alloc ?_ _)); exact BK1221.out) hb); have n4_ := Aside0.mk (below_step (by repeat (first | (with_reducible first | exact HB.out | apply below_alloc | apply pw_below_drewN | apply below_drew1 | refine below_set ?_ GE1221.out) | exact HB.out)) hb); clear HO1217; clear HO1220; clear HO1227; clear BK1221; clear HB; have HO1217 := n0_; have HO1220 := n1_; have HO1227 := n2_; have BK1221 := n3_; have HB := n4_; clear n0_ n1_ n2_ n3_ n4_; (try clear hb); (try clear hb2); (try clear hk); (try clear hi); have hcz26_0 : w25.cell? ⟨gb1221, 0, none⟩ = some (.slice Ao14 t1215.length co14) := (blk_cell BK1221.out 0).trans rfl; have hcz26_1 : w25.cell? ⟨gb1221, 1, none⟩ = some (.slice Ao16 t1218.length co16) := (blk_cell BK1221.out 1).trans rfl; have hfz26_0 := blk_frozen BK1221.out 0; have hfz26_1 := blk_frozen BK1221.out 1) | ((with_reducible refine gate_callee (f := 40) rfl ?_); refine goesL_ (some 53) rfl rfl Try.func40 (by kernel_rfl) rfl #[.agg #[.slice Ao14 t1215.length co14, .slice Ao16 t1218.length co16], .int .i64 (Int.tmod t1224 (t1215.length : Int)), .int .i64 t1222, .int .i64 t1223] rfl (by (try simp only [List.map_toArray, List.map_cons, List.map_nil]); first | done | rfl | (simp only [List.length_drop, List.length_take]; rfl)) ?_; (with_reducible refine (impl_Visits.calls k _ _ t1215 _ _ t1218 (Int.tmod t1224 (t1215.length : Int)) t1222 t1223 t1231 _ ?side1 ?side2 ?side3 ?side4 A10.out).mono ?_); (case side1 => repeat (first | exact (Kd.R_reads' HO1217.out).2.2 | (with_reducible refine Kd.C_alloc ?_ _) | (with_reducible refine Kd.C_drewN ?_ _) | (with_reducible refine Kd.C_drew ?_))); (case side2 => exact (Kd.R_reads' HO1217.out).2.1); (case side3 => repeat (first | exact (Kd.R_reads' HO1220.out).2.2 | (with_reducible refine Kd.C_alloc ?_ _) | (with_reducible refine Kd.C_drewN ?_ _) | (with_reducible refine Kd.C_drew ?_))); (case side4 => exact (Kd.R_reads' HO1220.out).2.1); rintro e w27 ⟨v1232, rfl, ho0, hb⟩; refine ⟨_, rfl, ?_⟩; have n0_ := Aside0.mk (Kd.R_elder' (by (with_reducible repeat (first | apply Kd.R_alloc | apply Kd.R_drewN | apply Kd.R_drew)); exact HO1217.out) (Kd.R_base ho0) hb); have n1_ := Aside0.mk (Kd.R_elder' (by (with_reducible repeat (first | apply Kd.R_alloc | apply Kd.R_drewN | apply Kd.R_drew)); exact HO1220.out) (Kd.R_base ho0) hb); have n2_ := Aside0.mk (Kd.R_elder' (by (with_reducible repeat (first | apply Kd.R_alloc | apply Kd.R_drewN | apply Kd.R_drew)); exact HO1227.out) (Kd.R_base ho0) hb); have n3_ := Aside0.mk (Kd.R_lower (Kd.R_new' (Kd.R_new' (Kd.R_new' ho0 (Kd.R_lt (by (with_reducible repeat (first | apply Kd.R_alloc | apply Kd.R_drewN | apply Kd.R_drew)); exact HO1217.out))) (Kd.R_lt (by (with_reducible repeat (first | apply Kd.R_alloc | apply Kd.R_drewN | apply Kd.R_drew)); exact HO1220.out))) (Kd.R_lt (by (with_reducible repeat (first | apply Kd.R_alloc | apply Kd.R_drewN | apply Kd.R_drew)); exact HO1227.out))) (below_size (by repeat (first | (with_reducible first | exact HB.out | apply below_alloc | apply pw_below_drewN | apply below_drew1 | refine below_set ?_ GE1221.out) | exact HB.out)))); have n4_ := Aside0.mk (blk_below (g := gb1221) (o := .cells #[.slice Ao14 t1215.length co14, .slice Ao16 t1218.length co16] 27 (0, 0)) (by (with_reducible repeat (first | refine blk_drewN ?_ _ | refine blk_drew ?_ | refine blk_alloc ?_ _)); exact BK1221.out) hb); have n5_ := Aside0.mk (below_step (by repeat (first | (with_reducible first | exact HB.out | apply below_alloc | apply pw_below_drewN | apply below_drew1 | refine below_set ?_ GE1221.out) | exact HB.out)) hb); clear HO1217; clear HO1220; clear HO1227; clear BK1221; clear HB; have HO1217 := n0_; have HO1220 := n1_; have HO1227 := n2_; have HO1233 := n3_; have BK1221 := n4_; have HB := n5_; clear n0_ n1_ n2_ n3_ n4_ n5_; (try clear hb); (try clear hb2); (try clear hk); (try clear hi); (try clear ho0)))
      (try simp only [Act.put, List.setIfInBounds_toArray, List.set_cons_zero, List.set_cons_succ])
      go_cut [105] (fun v105 wc => ∃ (kq : Nat) (x105_10 : Bool), v105 = .bool x105_10 ∧ Aside0 (laws_FnPaths.j0 kq t1225 t1230 t1231 x105_10 t1215 t1218 = some r) ∧ Aside0 (kq ≤ k) ∧ Aside0 (Kd.R (Kd.int .i64) 3 wc w.heap.size (fun k_ => some k_ ≠ (v1232 : Value).ownBlock ∧ some k_ ≠ ((.slice Ao14 t1215.length co14) : Value).ownBlock ∧ some k_ ≠ ((.slice Ao16 t1218.length co16) : Value).ownBlock) v1226 t1225) ∧ Aside0 (Kd.R (Kd.int .i64) 3 wc w.heap.size (fun k_ => some k_ ≠ (v1226 : Value).ownBlock ∧ some k_ ≠ ((.slice Ao14 t1215.length co14) : Value).ownBlock ∧ some k_ ≠ ((.slice Ao16 t1218.length co16) : Value).ownBlock) v1232 t1231) ∧ Aside0 (Kd.R (Kd.int .i64) 3 wc w.heap.size (fun k_ => some k_ ≠ (v1226 : Value).ownBlock ∧ some k_ ≠ (v1232 : Value).ownBlock ∧ some k_ ≠ ((.slice Ao16 t1218.length co16) : Value).ownBlock) (.slice Ao14 t1215.length co14) t1215) ∧ Aside0 (Kd.R (Kd.int .i64) 3 wc w.heap.size (fun k_ => some k_ ≠ (v1226 : Value).ownBlock ∧ some k_ ≠ (v1232 : Value).ownBlock ∧ some k_ ≠ ((.slice Ao14 t1215.length co14) : Value).ownBlock) (.slice Ao16 t1218.length co16) t1218) ∧ Aside0 (wc.heap[gb1221]? = some (.cells #[(.slice Ao14 t1215.length co14), (.slice Ao16 t1218.length co16)] 27 (0, 0))) ∧ Aside0 (Below w.heap.size w wc))
      case first =>
        have H := HC11.out
        clear HC11
        by_cases c28 : t1228 = true
        · subst c28
          have H1 : (if t1229 < 1 then (laws_FnPaths.j0 k t1225 t1230 t1231 true t1215 t1218) else (if t1229 > (t1215.length : Int) then (laws_FnPaths.j0 k t1225 t1230 t1231 true t1215 t1218) else (if (t1225.length : Int) = (wrap64 (t1229 * (wrap64 (t1222 + t1223)))) then (if (t1230.size : Int) = (t1225.length : Int) then ((laws_total.f k t1231).bind fun t1234 => (if t1234 = (t1225.length : Int) then (if (t1231.length : Int) = (t1215.length : Int) then (if 0 < (t1225.length : Int) then (laws_FnPaths.j0 k t1225 t1230 t1231 ((rd t1225 0) != (Int.tmod t1224 (t1215.length : Int))) t1215 t1218) else (none)) else (laws_FnPaths.j0 k t1225 t1230 t1231 true t1215 t1218)) else (laws_FnPaths.j0 k t1225 t1230 t1231 true t1215 t1218))) else (laws_FnPaths.j0 k t1225 t1230 t1231 true t1215 t1218)) else (laws_FnPaths.j0 k t1225 t1230 t1231 true t1215 t1218)))) = some r := by rw [if_pos rfl] at H; exact H
          clear H
          have H := H1
          clear H1
          by_cases c29 : t1229 < 1
          · rw [if_pos c29] at H
            have c29b0 : decide (t1229 < 1) = true := decide_eq_true c29
            clear c29
            (first | rw [c29b0] | (simp only [i64_w, i32_w]; rw [c29b0]) | skip)
            have H' := Aside0.mk H
            clear H
            go_wp2
            go_meet
            case rel => exact ⟨_, (true), (by first | rfl | (simp; done) | (simp [*]; done)), H', ⟨by first | omega | exact Nat.le_refl _⟩, ⟨by (with_reducible repeat (first | apply Kd.R_alloc | apply Kd.R_drewN | apply Kd.R_drew)); exact Kd.R_mono HO1227.out (fun _ hk => ⟨hk.2, ⟨hk.1.1.2, hk.1.2⟩⟩)⟩, ⟨by (with_reducible repeat (first | apply Kd.R_alloc | apply Kd.R_drewN | apply Kd.R_drew)); exact Kd.R_mono HO1233.out (fun _ hk => ⟨hk.2, ⟨hk.1.1.2, hk.1.2⟩⟩)⟩, ⟨by (with_reducible repeat (first | apply Kd.R_alloc | apply Kd.R_drewN | apply Kd.R_drew)); exact Kd.R_mono HO1217.out (fun _ hk => ⟨hk.1.2, ⟨hk.2, hk.1.1⟩⟩)⟩, ⟨by (with_reducible repeat (first | apply Kd.R_alloc | apply Kd.R_drewN | apply Kd.R_drew)); exact Kd.R_mono HO1220.out (fun _ hk => ⟨hk.1.2, ⟨hk.2, hk.1.1⟩⟩)⟩, ⟨by (with_reducible repeat (first | refine blk_drewN ?_ _ | refine blk_drew ?_ | refine blk_alloc ?_ _)); exact BK1221.out⟩, ⟨by repeat (first | (with_reducible first | exact HB.out | apply below_alloc | apply pw_below_drewN | apply below_drew1 | refine below_set ?_ GE1221.out) | exact HB.out)⟩⟩
          · rw [if_neg c29] at H
            have c29b0 : decide (t1229 < 1) = false := decide_eq_false c29
            clear c29
            (first | rw [c29b0] | (simp only [i64_w, i32_w]; rw [c29b0]) | skip)
            by_cases c30 : t1229 > (t1215.length : Int)
            · rw [if_pos c30] at H
              have c30b0 : decide ((t1215.length : Int) < t1229) = true := decide_eq_true c30
              clear c30
              have H' := Aside0.mk H
              clear H
              have hcz31_0 : w27.cell? ⟨gb1221, 0, none⟩ = some (.slice Ao14 t1215.length co14) := (blk_cell BK1221.out 0).trans rfl
              have hcz31_1 : w27.cell? ⟨gb1221, 1, none⟩ = some (.slice Ao16 t1218.length co16) := (blk_cell BK1221.out 1).trans rfl
              have hfz31_0 := blk_frozen BK1221.out 0
              have hfz31_1 := blk_frozen BK1221.out 1
              go_wp2
              go_meet
              case rel => exact ⟨_, (true), (by first | rfl | (simp; done) | (simp [*]; done)), H', ⟨by first | omega | exact Nat.le_refl _⟩, ⟨by (with_reducible repeat (first | apply Kd.R_alloc | apply Kd.R_drewN | apply Kd.R_drew)); exact Kd.R_mono HO1227.out (fun _ hk => ⟨hk.2, ⟨hk.1.1.2, hk.1.2⟩⟩)⟩, ⟨by (with_reducible repeat (first | apply Kd.R_alloc | apply Kd.R_drewN | apply Kd.R_drew)); exact Kd.R_mono HO1233.out (fun _ hk => ⟨hk.2, ⟨hk.1.1.2, hk.1.2⟩⟩)⟩, ⟨by (with_reducible repeat (first | apply Kd.R_alloc | apply Kd.R_drewN | apply Kd.R_drew)); exact Kd.R_mono HO1217.out (fun _ hk => ⟨hk.1.2, ⟨hk.2, hk.1.1⟩⟩)⟩, ⟨by (with_reducible repeat (first | apply Kd.R_alloc | apply Kd.R_drewN | apply Kd.R_drew)); exact Kd.R_mono HO1220.out (fun _ hk => ⟨hk.1.2, ⟨hk.2, hk.1.1⟩⟩)⟩, ⟨by (with_reducible repeat (first | refine blk_drewN ?_ _ | refine blk_drew ?_ | refine blk_alloc ?_ _)); exact BK1221.out⟩, ⟨by repeat (first | (with_reducible first | exact HB.out | apply below_alloc | apply pw_below_drewN | apply below_drew1 | refine below_set ?_ GE1221.out) | exact HB.out)⟩⟩
            · rw [if_neg c30] at H
              have c30b0 : decide ((t1215.length : Int) < t1229) = false := decide_eq_false c30
              clear c30
              by_cases c32 : (t1225.length : Int) = (wrap64 (t1229 * (wrap64 (t1222 + t1223))))
              · rw [if_pos c32] at H
                have c32b0 : ((t1225.length : Int) == (wrap64 (t1229 * (wrap64 (t1222 + t1223))))) = true := beq_iff_eq.mpr c32
                have c32b1 : ((t1225.length : Int) != (wrap64 (t1229 * (wrap64 (t1222 + t1223))))) = false := bne_eq_false_iff_eq.mpr c32
                clear c32
                by_cases c33 : (t1230.size : Int) = (t1225.length : Int)
                · rw [if_pos c33] at H
                  have c33b0 : ((t1230.size : Int) == (t1225.length : Int)) = true := beq_iff_eq.mpr c33
                  have c33b1 : ((t1230.size : Int) != (t1225.length : Int)) = false := bne_eq_false_iff_eq.mpr c33
                  have c33b2 : (t1230.size == t1225.length) = true := by first | simpa using c33 | (simp at c33 ⊢; omega)
                  clear c33
                  replace H := Option.bind_eq_some_iff.mp H
                  obtain ⟨t1234, A340, H⟩ := H
                  replace H : (if t1234 = (t1225.length : Int) then (if (t1231.length : Int) = (t1215.length : Int) then (if 0 < (t1225.length : Int) then (laws_FnPaths.j0 k t1225 t1230 t1231 ((rd t1225 0) != (Int.tmod t1224 (t1215.length : Int))) t1215 t1218) else (none)) else (laws_FnPaths.j0 k t1225 t1230 t1231 true t1215 t1218)) else (laws_FnPaths.j0 k t1225 t1230 t1231 true t1215 t1218)) = some r := H
                  have A34 := Aside0.mk A340
                  clear A340
                  by_cases c35 : t1234 = (t1225.length : Int)
                  · rw [if_pos c35] at H
                    have c35b0 : (t1234 == (t1225.length : Int)) = true := beq_iff_eq.mpr c35
                    have c35b1 : (t1234 != (t1225.length : Int)) = false := bne_eq_false_iff_eq.mpr c35
                    clear c35
                    by_cases c36 : (t1231.length : Int) = (t1215.length : Int)
                    · rw [if_pos c36] at H
                      have c36b0 : ((t1231.length : Int) == (t1215.length : Int)) = true := beq_iff_eq.mpr c36
                      have c36b1 : ((t1231.length : Int) != (t1215.length : Int)) = false := bne_eq_false_iff_eq.mpr c36
                      have c36b2 : (t1231.length == t1215.length) = true := by first | simpa using c36 | (simp at c36 ⊢; omega)
                      clear c36
                      by_cases c37 : 0 < (t1225.length : Int)
                      · rw [if_pos c37] at H
                        have c37b0 : decide (0 < (t1225.length : Int)) = true := decide_eq_true c37
                        have c37b1 : decide (0 < t1225.length) = true := decide_eq_true (by omega)
                        clear c37
                        have H' := Aside0.mk H
                        clear H
                        have hcz38_0 : w27.cell? ⟨gb1221, 0, none⟩ = some (.slice Ao14 t1215.length co14) := (blk_cell BK1221.out 0).trans rfl
                        have hcz38_1 : w27.cell? ⟨gb1221, 1, none⟩ = some (.slice Ao16 t1218.length co16) := (blk_cell BK1221.out 1).trans rfl
                        have hfz38_0 := blk_frozen BK1221.out 0
                        have hfz38_1 := blk_frozen BK1221.out 1
                        obtain ⟨Ao39, co39, eo39⟩ := Kd.R_slice HO1227.out
                        subst eo39
                        obtain ⟨Ao40, co40, eo40⟩ := Kd.R_slice HO1233.out
                        subst eo40
                        go_wp2_with (first | (go_at_call 44; (with_reducible refine (laws_total.calls k _ _ t1231 t1234 _ ?side1 ?side2 A34.out).mono ?_); (case side1 => repeat (first | exact (Kd.R_reads' HO1233.out).2.2 | (with_reducible refine Kd.C_alloc ?_ _) | (with_reducible refine Kd.C_drewN ?_ _) | (with_reducible refine Kd.C_drew ?_))); (case side2 => exact (Kd.R_reads' HO1233.out).2.1); rintro e w' ⟨rfl, ⟨nd, rfl⟩⟩; have p1235 : 0 ≤ (0 : Int) := (by omega); have q1235 : 0 < (t1225.length : Int) := of_decide_eq_true (by first | (with_reducible assumption) | assumption); obtain ⟨ad1235, e1235, hx1235_0⟩ := Kd.at_int (Kd.R_reads' HO1227.out).2.2 0 p1235 q1235; cases e1235; have qi1235 : (0 < t1225.length) = True := eq_true (by omega); (try rw [show ((0 : Int)).toNat = 0 from rfl] at hx1235_0); (try rw [Addr.add_zero'] at hx1235_0); replace p1235 := eq_true p1235; replace q1235 := eq_true q1235))
                        go_meet
                        case rel => exact ⟨_, (((rd t1225 0) != (Int.tmod t1224 (t1215.length : Int)))), (by first | rfl | (simp; done) | (simp [*]; done)), H', ⟨by first | omega | exact Nat.le_refl _⟩, ⟨by (with_reducible repeat (first | apply Kd.R_alloc | apply Kd.R_drewN | apply Kd.R_drew)); exact Kd.R_mono HO1227.out (fun _ hk => ⟨hk.2, ⟨hk.1.1.2, hk.1.2⟩⟩)⟩, ⟨by (with_reducible repeat (first | apply Kd.R_alloc | apply Kd.R_drewN | apply Kd.R_drew)); exact Kd.R_mono HO1233.out (fun _ hk => ⟨hk.2, ⟨hk.1.1.2, hk.1.2⟩⟩)⟩, ⟨by (with_reducible repeat (first | apply Kd.R_alloc | apply Kd.R_drewN | apply Kd.R_drew)); exact Kd.R_mono HO1217.out (fun _ hk => ⟨hk.1.2, ⟨hk.2, hk.1.1⟩⟩)⟩, ⟨by (with_reducible repeat (first | apply Kd.R_alloc | apply Kd.R_drewN | apply Kd.R_drew)); exact Kd.R_mono HO1220.out (fun _ hk => ⟨hk.1.2, ⟨hk.2, hk.1.1⟩⟩)⟩, ⟨by (with_reducible repeat (first | refine blk_drewN ?_ _ | refine blk_drew ?_ | refine blk_alloc ?_ _)); exact BK1221.out⟩, ⟨by repeat (first | (with_reducible first | exact HB.out | apply below_alloc | apply pw_below_drewN | apply below_drew1 | refine below_set ?_ GE1221.out) | exact HB.out)⟩⟩
                      · rw [if_neg c37] at H
                        exact absurd H (by simp)
                    · rw [if_neg c36] at H
                      have c36b0 : ((t1231.length : Int) == (t1215.length : Int)) = false := beq_eq_false_iff_ne.mpr c36
                      have c36b1 : ((t1231.length : Int) != (t1215.length : Int)) = true := bne_iff_ne.mpr c36
                      have c36b2 : (t1231.length == t1215.length) = false := by first | simpa using c36 | (simp at c36 ⊢; omega)
                      have H' := Aside0.mk H
                      clear H
                      have hcz41_0 : w27.cell? ⟨gb1221, 0, none⟩ = some (.slice Ao14 t1215.length co14) := (blk_cell BK1221.out 0).trans rfl
                      have hcz41_1 : w27.cell? ⟨gb1221, 1, none⟩ = some (.slice Ao16 t1218.length co16) := (blk_cell BK1221.out 1).trans rfl
                      have hfz41_0 := blk_frozen BK1221.out 0
                      have hfz41_1 := blk_frozen BK1221.out 1
                      obtain ⟨Ao42, co42, eo42⟩ := Kd.R_slice HO1227.out
                      subst eo42
                      obtain ⟨Ao43, co43, eo43⟩ := Kd.R_slice HO1233.out
                      subst eo43
                      go_wp2_with (first | (go_at_call 44; (with_reducible refine (laws_total.calls k _ _ t1231 t1234 _ ?side1 ?side2 A34.out).mono ?_); (case side1 => repeat (first | exact (Kd.R_reads' HO1233.out).2.2 | (with_reducible refine Kd.C_alloc ?_ _) | (with_reducible refine Kd.C_drewN ?_ _) | (with_reducible refine Kd.C_drew ?_))); (case side2 => exact (Kd.R_reads' HO1233.out).2.1); rintro e w' ⟨rfl, ⟨nd, rfl⟩⟩))
                      go_meet
                      case rel => exact ⟨_, (true), (by first | rfl | (simp; done) | (simp [*]; done)), H', ⟨by first | omega | exact Nat.le_refl _⟩, ⟨by (with_reducible repeat (first | apply Kd.R_alloc | apply Kd.R_drewN | apply Kd.R_drew)); exact Kd.R_mono HO1227.out (fun _ hk => ⟨hk.2, ⟨hk.1.1.2, hk.1.2⟩⟩)⟩, ⟨by (with_reducible repeat (first | apply Kd.R_alloc | apply Kd.R_drewN | apply Kd.R_drew)); exact Kd.R_mono HO1233.out (fun _ hk => ⟨hk.2, ⟨hk.1.1.2, hk.1.2⟩⟩)⟩, ⟨by (with_reducible repeat (first | apply Kd.R_alloc | apply Kd.R_drewN | apply Kd.R_drew)); exact Kd.R_mono HO1217.out (fun _ hk => ⟨hk.1.2, ⟨hk.2, hk.1.1⟩⟩)⟩, ⟨by (with_reducible repeat (first | apply Kd.R_alloc | apply Kd.R_drewN | apply Kd.R_drew)); exact Kd.R_mono HO1220.out (fun _ hk => ⟨hk.1.2, ⟨hk.2, hk.1.1⟩⟩)⟩, ⟨by (with_reducible repeat (first | refine blk_drewN ?_ _ | refine blk_drew ?_ | refine blk_alloc ?_ _)); exact BK1221.out⟩, ⟨by repeat (first | (with_reducible first | exact HB.out | apply below_alloc | apply pw_below_drewN | apply below_drew1 | refine below_set ?_ GE1221.out) | exact HB.out)⟩⟩
                  · rw [if_neg c35] at H
                    have c35b0 : (t1234 == (t1225.length : Int)) = false := beq_eq_false_iff_ne.mpr c35
                    have c35b1 : (t1234 != (t1225.length : Int)) = true := bne_iff_ne.mpr c35
                    have H' := Aside0.mk H
                    clear H
                    have hcz44_0 : w27.cell? ⟨gb1221, 0, none⟩ = some (.slice Ao14 t1215.length co14) := (blk_cell BK1221.out 0).trans rfl
                    have hcz44_1 : w27.cell? ⟨gb1221, 1, none⟩ = some (.slice Ao16 t1218.length co16) := (blk_cell BK1221.out 1).trans rfl
                    have hfz44_0 := blk_frozen BK1221.out 0
                    have hfz44_1 := blk_frozen BK1221.out 1
                    obtain ⟨Ao45, co45, eo45⟩ := Kd.R_slice HO1227.out
                    subst eo45
                    obtain ⟨Ao46, co46, eo46⟩ := Kd.R_slice HO1233.out
                    subst eo46
                    go_wp2_with (first | (go_at_call 44; (with_reducible refine (laws_total.calls k _ _ t1231 t1234 _ ?side1 ?side2 A34.out).mono ?_); (case side1 => repeat (first | exact (Kd.R_reads' HO1233.out).2.2 | (with_reducible refine Kd.C_alloc ?_ _) | (with_reducible refine Kd.C_drewN ?_ _) | (with_reducible refine Kd.C_drew ?_))); (case side2 => exact (Kd.R_reads' HO1233.out).2.1); rintro e w' ⟨rfl, ⟨nd, rfl⟩⟩))
                    go_meet
                    case rel => exact ⟨_, (true), (by first | rfl | (simp; done) | (simp [*]; done)), H', ⟨by first | omega | exact Nat.le_refl _⟩, ⟨by (with_reducible repeat (first | apply Kd.R_alloc | apply Kd.R_drewN | apply Kd.R_drew)); exact Kd.R_mono HO1227.out (fun _ hk => ⟨hk.2, ⟨hk.1.1.2, hk.1.2⟩⟩)⟩, ⟨by (with_reducible repeat (first | apply Kd.R_alloc | apply Kd.R_drewN | apply Kd.R_drew)); exact Kd.R_mono HO1233.out (fun _ hk => ⟨hk.2, ⟨hk.1.1.2, hk.1.2⟩⟩)⟩, ⟨by (with_reducible repeat (first | apply Kd.R_alloc | apply Kd.R_drewN | apply Kd.R_drew)); exact Kd.R_mono HO1217.out (fun _ hk => ⟨hk.1.2, ⟨hk.2, hk.1.1⟩⟩)⟩, ⟨by (with_reducible repeat (first | apply Kd.R_alloc | apply Kd.R_drewN | apply Kd.R_drew)); exact Kd.R_mono HO1220.out (fun _ hk => ⟨hk.1.2, ⟨hk.2, hk.1.1⟩⟩)⟩, ⟨by (with_reducible repeat (first | refine blk_drewN ?_ _ | refine blk_drew ?_ | refine blk_alloc ?_ _)); exact BK1221.out⟩, ⟨by repeat (first | (with_reducible first | exact HB.out | apply below_alloc | apply pw_below_drewN | apply below_drew1 | refine below_set ?_ GE1221.out) | exact HB.out)⟩⟩
                · rw [if_neg c33] at H
                  have c33b0 : ((t1230.size : Int) == (t1225.length : Int)) = false := beq_eq_false_iff_ne.mpr c33
                  have c33b1 : ((t1230.size : Int) != (t1225.length : Int)) = true := bne_iff_ne.mpr c33
                  have c33b2 : (t1230.size == t1225.length) = false := by first | simpa using c33 | (simp at c33 ⊢; omega)
                  have H' := Aside0.mk H
                  clear H
                  have hcz47_0 : w27.cell? ⟨gb1221, 0, none⟩ = some (.slice Ao14 t1215.length co14) := (blk_cell BK1221.out 0).trans rfl
                  have hcz47_1 : w27.cell? ⟨gb1221, 1, none⟩ = some (.slice Ao16 t1218.length co16) := (blk_cell BK1221.out 1).trans rfl
                  have hfz47_0 := blk_frozen BK1221.out 0
                  have hfz47_1 := blk_frozen BK1221.out 1
                  obtain ⟨Ao48, co48, eo48⟩ := Kd.R_slice HO1227.out
                  subst eo48
                  go_wp2
                  go_meet
                  case rel => exact ⟨_, (true), (by first | rfl | (simp; done) | (simp [*]; done)), H', ⟨by first | omega | exact Nat.le_refl _⟩, ⟨by (with_reducible repeat (first | apply Kd.R_alloc | apply Kd.R_drewN | apply Kd.R_drew)); exact Kd.R_mono HO1227.out (fun _ hk => ⟨hk.2, ⟨hk.1.1.2, hk.1.2⟩⟩)⟩, ⟨by (with_reducible repeat (first | apply Kd.R_alloc | apply Kd.R_drewN | apply Kd.R_drew)); exact Kd.R_mono HO1233.out (fun _ hk => ⟨hk.2, ⟨hk.1.1.2, hk.1.2⟩⟩)⟩, ⟨by (with_reducible repeat (first | apply Kd.R_alloc | apply Kd.R_drewN | apply Kd.R_drew)); exact Kd.R_mono HO1217.out (fun _ hk => ⟨hk.1.2, ⟨hk.2, hk.1.1⟩⟩)⟩, ⟨by (with_reducible repeat (first | apply Kd.R_alloc | apply Kd.R_drewN | apply Kd.R_drew)); exact Kd.R_mono HO1220.out (fun _ hk => ⟨hk.1.2, ⟨hk.2, hk.1.1⟩⟩)⟩, ⟨by (with_reducible repeat (first | refine blk_drewN ?_ _ | refine blk_drew ?_ | refine blk_alloc ?_ _)); exact BK1221.out⟩, ⟨by repeat (first | (with_reducible first | exact HB.out | apply below_alloc | apply pw_below_drewN | apply below_drew1 | refine below_set ?_ GE1221.out) | exact HB.out)⟩⟩
              · rw [if_neg c32] at H
                have c32b0 : ((t1225.length : Int) == (wrap64 (t1229 * (wrap64 (t1222 + t1223))))) = false := beq_eq_false_iff_ne.mpr c32
                have c32b1 : ((t1225.length : Int) != (wrap64 (t1229 * (wrap64 (t1222 + t1223))))) = true := bne_iff_ne.mpr c32
                have H' := Aside0.mk H
                clear H
                have hcz49_0 : w27.cell? ⟨gb1221, 0, none⟩ = some (.slice Ao14 t1215.length co14) := (blk_cell BK1221.out 0).trans rfl
                have hcz49_1 : w27.cell? ⟨gb1221, 1, none⟩ = some (.slice Ao16 t1218.length co16) := (blk_cell BK1221.out 1).trans rfl
                have hfz49_0 := blk_frozen BK1221.out 0
                have hfz49_1 := blk_frozen BK1221.out 1
                obtain ⟨Ao50, co50, eo50⟩ := Kd.R_slice HO1227.out
                subst eo50
                go_wp2
                go_meet
                case rel => exact ⟨_, (true), (by first | rfl | (simp; done) | (simp [*]; done)), H', ⟨by first | omega | exact Nat.le_refl _⟩, ⟨by (with_reducible repeat (first | apply Kd.R_alloc | apply Kd.R_drewN | apply Kd.R_drew)); exact Kd.R_mono HO1227.out (fun _ hk => ⟨hk.2, ⟨hk.1.1.2, hk.1.2⟩⟩)⟩, ⟨by (with_reducible repeat (first | apply Kd.R_alloc | apply Kd.R_drewN | apply Kd.R_drew)); exact Kd.R_mono HO1233.out (fun _ hk => ⟨hk.2, ⟨hk.1.1.2, hk.1.2⟩⟩)⟩, ⟨by (with_reducible repeat (first | apply Kd.R_alloc | apply Kd.R_drewN | apply Kd.R_drew)); exact Kd.R_mono HO1217.out (fun _ hk => ⟨hk.1.2, ⟨hk.2, hk.1.1⟩⟩)⟩, ⟨by (with_reducible repeat (first | apply Kd.R_alloc | apply Kd.R_drewN | apply Kd.R_drew)); exact Kd.R_mono HO1220.out (fun _ hk => ⟨hk.1.2, ⟨hk.2, hk.1.1⟩⟩)⟩, ⟨by (with_reducible repeat (first | refine blk_drewN ?_ _ | refine blk_drew ?_ | refine blk_alloc ?_ _)); exact BK1221.out⟩, ⟨by repeat (first | (with_reducible first | exact HB.out | apply below_alloc | apply pw_below_drewN | apply below_drew1 | refine below_set ?_ GE1221.out) | exact HB.out)⟩⟩
        · replace c28 := Bool.eq_false_iff.mpr c28
          subst c28
          have H1 : (laws_FnPaths.j0 k t1225 t1230 t1231 true t1215 t1218) = some r := by rw [if_neg (show ¬ (false = true) by decide)] at H; exact H
          clear H
          have H := H1
          clear H1
          have H' := Aside0.mk H
          clear H
          go_wp2
          go_meet
          case rel => exact ⟨_, (true), (by first | rfl | (simp; done) | (simp [*]; done)), H', ⟨by first | omega | exact Nat.le_refl _⟩, ⟨by (with_reducible repeat (first | apply Kd.R_alloc | apply Kd.R_drewN | apply Kd.R_drew)); exact Kd.R_mono HO1227.out (fun _ hk => ⟨hk.2, ⟨hk.1.1.2, hk.1.2⟩⟩)⟩, ⟨by (with_reducible repeat (first | apply Kd.R_alloc | apply Kd.R_drewN | apply Kd.R_drew)); exact Kd.R_mono HO1233.out (fun _ hk => ⟨hk.2, ⟨hk.1.1.2, hk.1.2⟩⟩)⟩, ⟨by (with_reducible repeat (first | apply Kd.R_alloc | apply Kd.R_drewN | apply Kd.R_drew)); exact Kd.R_mono HO1217.out (fun _ hk => ⟨hk.1.2, ⟨hk.2, hk.1.1⟩⟩)⟩, ⟨by (with_reducible repeat (first | apply Kd.R_alloc | apply Kd.R_drewN | apply Kd.R_drew)); exact Kd.R_mono HO1220.out (fun _ hk => ⟨hk.1.2, ⟨hk.2, hk.1.1⟩⟩)⟩, ⟨by (with_reducible repeat (first | refine blk_drewN ?_ _ | refine blk_drew ?_ | refine blk_alloc ?_ _)); exact BK1221.out⟩, ⟨by repeat (first | (with_reducible first | exact HB.out | apply below_alloc | apply pw_below_drewN | apply below_drew1 | refine below_set ?_ GE1221.out) | exact HB.out)⟩⟩
      case rest =>
        clear HC11
        try clear c1
        try clear p1
        try clear q1
        try clear hx1
        try clear qi1
        try clear c2
        try clear c2b0
        try clear c2b1
        try clear p2
        try clear c3
        try clear c4
        try clear c6
        try clear c6b0
        try clear c6b1
        try clear c6b2
        try clear p6
        try clear c10
        try clear p12
        try clear q12
        try clear hx12
        try clear qi12
        try clear c27
        try clear c28
        try clear c29
        try clear c29b0
        try clear c30
        try clear c30b0
        try clear c32
        try clear c32b0
        try clear c32b1
        try clear c33
        try clear c33b0
        try clear c33b1
        try clear c33b2
        try clear c35
        try clear c35b0
        try clear c35b1
        try clear c36
        try clear c36b0
        try clear c36b1
        try clear c36b2
        try clear c37
        try clear c37b0
        try clear c37b1
        try clear c40
        try clear c41
        try clear c42
        try clear c43
        try clear hcz15_0
        try clear hcz15_1
        try clear hcz20_0
        try clear hcz20_1
        try clear hcz22_0
        try clear hcz22_1
        try clear hcz24_0
        try clear hcz24_1
        try clear hcz26_0
        try clear hcz26_1
        try clear hcz31_0
        try clear hcz31_1
        try clear hcz38_0
        try clear hcz38_1
        try clear hcz41_0
        try clear hcz41_1
        try clear hcz44_0
        try clear hcz44_1
        try clear hcz47_0
        try clear hcz47_1
        try clear hcz49_0
        try clear hcz49_1
        try clear hfz15_0
        try clear hfz15_1
        try clear hfz20_0
        try clear hfz20_1
        try clear hfz22_0
        try clear hfz22_1
        try clear hfz24_0
        try clear hfz24_1
        try clear hfz26_0
        try clear hfz26_1
        try clear hfz31_0
        try clear hfz31_1
        try clear hfz38_0
        try clear hfz38_1
        try clear hfz41_0
        try clear hfz41_1
        try clear hfz44_0
        try clear hfz44_1
        try clear hfz47_0
        try clear hfz47_1
        try clear hfz49_0
        try clear hfz49_1
        try clear hx1235_0
        try clear p1235
        try clear q1235
        obtain ⟨kq, x105_10, rfl, HA, HJ10, HO_7, HO_11, HO_1222000, HO_1222001, BK1221, HB⟩ := hcut
        cases kq with
        | zero => exact absurd HA.out (by simp [laws_FnPaths.j0])
        | succ kj10 =>
          have H := HA.out
          clear HA
          simp only [laws_FnPaths.j0] at H
          by_cases c51 : x105_10 = true
          · subst c51
            have H1 : (some false) = some r := by rw [if_pos rfl] at H; exact H
            clear H
            have H := H1
            clear H1
            exact absurd (Option.some.inj H) (by rw [hr1_.out]; decide)
          · replace c51 := Bool.eq_false_iff.mpr c51
            subst c51
            have H1 : (laws_FnPaths.l0 kj10 t1225 t1230 t1231 t1225 (t1225.length : Int) 0 t1215 t1218) = some r := by rw [if_neg (show ¬ (false = true) by decide)] at H; exact H
            clear H
            have H := H1
            clear H1
            have H' := Aside0.mk H
            clear H
            obtain ⟨Ao52, co52, eo52⟩ := Kd.R_slice HO_7.out
            subst eo52
            go_wp2
            go_loopg [108] kj10 (fun kq v108 w' => ∃ (x108_2 : Int), v108 = .int .i64 x108_2 ∧ Aside0 (laws_FnPaths.l0 kq t1225 t1230 t1231 t1225 (t1225.length : Int) x108_2 t1215 t1218 = some r) ∧ Aside0 (kq ≤ kj10) ∧ Aside0 (Kd.R (Kd.int .i64) 3 w' w.heap.size (fun k_ => some k_ ≠ (v1232 : Value).ownBlock ∧ some k_ ≠ ((.slice Ao14 t1215.length co14) : Value).ownBlock ∧ some k_ ≠ ((.slice Ao16 t1218.length co16) : Value).ownBlock) (.slice Ao52 t1225.length co52) t1225) ∧ Aside0 (Kd.R (Kd.int .i64) 3 w' w.heap.size (fun k_ => some k_ ≠ ((.slice Ao52 t1225.length co52) : Value).ownBlock ∧ some k_ ≠ ((.slice Ao52 t1225.length co52) : Value).ownBlock ∧ some k_ ≠ ((.slice Ao14 t1215.length co14) : Value).ownBlock ∧ some k_ ≠ ((.slice Ao16 t1218.length co16) : Value).ownBlock) v1232 t1231) ∧ Aside0 (Kd.R (Kd.int .i64) 3 w' w.heap.size (fun k_ => some k_ ≠ (v1232 : Value).ownBlock ∧ some k_ ≠ ((.slice Ao14 t1215.length co14) : Value).ownBlock ∧ some k_ ≠ ((.slice Ao16 t1218.length co16) : Value).ownBlock) (.slice Ao52 t1225.length co52) t1225) ∧ Aside0 (Kd.R (Kd.int .i64) 3 w' w.heap.size (fun k_ => some k_ ≠ ((.slice Ao52 t1225.length co52) : Value).ownBlock ∧ some k_ ≠ (v1232 : Value).ownBlock ∧ some k_ ≠ ((.slice Ao52 t1225.length co52) : Value).ownBlock ∧ some k_ ≠ ((.slice Ao16 t1218.length co16) : Value).ownBlock) (.slice Ao14 t1215.length co14) t1215) ∧ Aside0 (Kd.R (Kd.int .i64) 3 w' w.heap.size (fun k_ => some k_ ≠ ((.slice Ao52 t1225.length co52) : Value).ownBlock ∧ some k_ ≠ (v1232 : Value).ownBlock ∧ some k_ ≠ ((.slice Ao52 t1225.length co52) : Value).ownBlock ∧ some k_ ≠ ((.slice Ao14 t1215.length co14) : Value).ownBlock) (.slice Ao16 t1218.length co16) t1218) ∧ Aside0 (w'.heap[gb1221]? = some (.cells #[(.slice Ao14 t1215.length co14), (.slice Ao16 t1218.length co16)] 27 (0, 0))) ∧ Aside0 (Below w.heap.size w w'))
            case atStart => exact ⟨(0), (by first | rfl | (simp; done) | (simp [*]; done)), H', ⟨Nat.le_refl _⟩, ⟨by (with_reducible repeat (first | apply Kd.R_alloc | apply Kd.R_drewN | apply Kd.R_drew)); exact HO_7.out⟩, ⟨by (with_reducible repeat (first | apply Kd.R_alloc | apply Kd.R_drewN | apply Kd.R_drew)); exact Kd.R_mono HO_11.out (fun _ hk => ⟨hk.1, ⟨hk.1, ⟨hk.2.1, hk.2.2⟩⟩⟩)⟩, ⟨by (with_reducible repeat (first | apply Kd.R_alloc | apply Kd.R_drewN | apply Kd.R_drew)); exact HO_7.out⟩, ⟨by (with_reducible repeat (first | apply Kd.R_alloc | apply Kd.R_drewN | apply Kd.R_drew)); exact Kd.R_mono HO_1222000.out (fun _ hk => ⟨hk.1, ⟨hk.2.1, ⟨hk.1, hk.2.2⟩⟩⟩)⟩, ⟨by (with_reducible repeat (first | apply Kd.R_alloc | apply Kd.R_drewN | apply Kd.R_drew)); exact Kd.R_mono HO_1222001.out (fun _ hk => ⟨hk.1, ⟨hk.2.1, ⟨hk.1, hk.2.2⟩⟩⟩)⟩, ⟨by (with_reducible repeat (first | refine blk_drewN ?_ _ | refine blk_drew ?_ | refine blk_alloc ?_ _)); exact BK1221.out⟩, ⟨by repeat (first | (with_reducible first | exact HB.out | apply below_alloc | apply pw_below_drewN | apply below_drew1 | refine below_set ?_ GE1221.out) | exact HB.out)⟩⟩
            case round =>
              clear H'
              try clear c1
              try clear p1
              try clear q1
              try clear hx1
              try clear qi1
              try clear c2
              try clear c2b0
              try clear c2b1
              try clear p2
              try clear c3
              try clear c4
              try clear c5
              try clear c6
              try clear c6b0
              try clear c6b1
              try clear c6b2
              try clear p6
              try clear c10
              try clear p12
              try clear q12
              try clear hx12
              try clear qi12
              try clear c27
              try clear c28
              try clear c29
              try clear c29b0
              try clear c30
              try clear c30b0
              try clear c32
              try clear c32b0
              try clear c32b1
              try clear c33
              try clear c33b0
              try clear c33b1
              try clear c33b2
              try clear c35
              try clear c35b0
              try clear c35b1
              try clear c36
              try clear c36b0
              try clear c36b1
              try clear c36b2
              try clear c37
              try clear c37b0
              try clear c37b1
              try clear c40
              try clear c41
              try clear c42
              try clear c43
              try clear c51
              try clear hcz15_0
              try clear hcz15_1
              try clear hcz20_0
              try clear hcz20_1
              try clear hcz22_0
              try clear hcz22_1
              try clear hcz24_0
              try clear hcz24_1
              try clear hcz26_0
              try clear hcz26_1
              try clear hcz31_0
              try clear hcz31_1
              try clear hcz38_0
              try clear hcz38_1
              try clear hcz41_0
              try clear hcz41_1
              try clear hcz44_0
              try clear hcz44_1
              try clear hcz47_0
              try clear hcz47_1
              try clear hcz49_0
              try clear hcz49_1
              try clear hfz15_0
              try clear hfz15_1
              try clear hfz20_0
              try clear hfz20_1
              try clear hfz22_0
              try clear hfz22_1
              try clear hfz24_0
              try clear hfz24_1
              try clear hfz26_0
              try clear hfz26_1
              try clear hfz31_0
              try clear hfz31_1
              try clear hfz38_0
              try clear hfz38_1
              try clear hfz41_0
              try clear hfz41_1
              try clear hfz44_0
              try clear hfz44_1
              try clear hfz47_0
              try clear hfz47_1
              try clear hfz49_0
              try clear hfz49_1
              try clear hx1235_0
              try clear p1
              try clear p12
              try clear p1235
              try clear p2
              try clear p6
              try clear q1
              try clear q12
              try clear q1235
              obtain ⟨x108_2, rfl, HA, HK2, HO_7, HO_11, HO_106, HO_1222000, HO_1222001, BK1221, HB⟩ := hrel
              cases gk with
              | zero => exact absurd HA.out (by simp [laws_FnPaths.l0])
              | succ k2 =>
                have H := HA.out
                clear HA
                simp only [laws_FnPaths.l0] at H
                by_cases c53 : x108_2 < (t1225.length : Int)
                · rw [if_pos c53] at H
                  have c53b0 : decide (x108_2 < (t1225.length : Int)) = true := decide_eq_true c53
                  clear c53
                  by_cases c54 : 0 ≤ x108_2
                  · rw [if_pos c54] at H
                    have c54b0 : decide (0 ≤ x108_2) = true := decide_eq_true c54
                    clear c54
                    by_cases c55 : x108_2 < (t1225.length : Int)
                    · rw [if_pos c55] at H
                      have c55b0 : decide (x108_2 < (t1225.length : Int)) = true := decide_eq_true c55
                      clear c55
                      by_cases c56 : (t1225.length : Int) = 0
                      · rw [if_pos c56] at H
                        exact absurd H (by simp)
                      · rw [if_neg c56] at H
                        have c56b0 : ((t1225.length : Int) == 0) = false := beq_eq_false_iff_ne.mpr c56
                        have c56b1 : ((t1225.length : Int) != 0) = true := bne_iff_ne.mpr c56
                        have c56b2 : ¬ (t1225 = []) := fun h_ => c56 (by rw [h_]; rfl)
                        obtain ⟨ji57, hji57⟩ : ∃ j_ : Int, (Int.tmod (wrap64 (x108_2 + 1)) (t1225.length : Int)) = j_ := ⟨_, rfl⟩
                        replace H : (if 0 ≤ (ji57) then (if (ji57) < (t1225.length : Int) then (if (rd t1225 x108_2) < 0 then (some false) else (if (rd t1225 x108_2) ≥ (t1215.length : Int) then (some false) else (if x108_2 < (t1230.size : Int) then (if (bt t1230 x108_2) = 114 then (if 0 ≤ (rd t1225 x108_2) then (if (rd t1225 x108_2) < (t1215.length : Int) then (if (rd t1225 (ji57)) = (rd t1215 (rd t1225 x108_2)) then (if (rd t1225 x108_2) < (t1231.length : Int) then (if (rd t1231 (rd t1225 x108_2)) < 1 then (some false) else (laws_FnPaths.l0 k2 t1225 t1230 t1231 t1225 (t1225.length : Int) (wrap64 (x108_2 + 1)) t1215 t1218)) else (none)) else (some false)) else (none)) else (none)) else (if 0 ≤ (rd t1225 x108_2) then (if (rd t1225 x108_2) < (t1218.length : Int) then (if (rd t1225 (ji57)) = (rd t1218 (rd t1225 x108_2)) then (if (rd t1225 x108_2) < (t1231.length : Int) then (if (rd t1231 (rd t1225 x108_2)) < 1 then (some false) else (laws_FnPaths.l0 k2 t1225 t1230 t1231 t1225 (t1225.length : Int) (wrap64 (x108_2 + 1)) t1215 t1218)) else (none)) else (some false)) else (none)) else (none))) else (none)))) else (none)) else (none)) = some r := by first | (rw [hji57] at H; exact H) | (simp only [hji57] at H ⊢; exact H)
                        by_cases c58 : 0 ≤ (ji57)
                        · rw [if_pos c58] at H
                          have c58b0 : decide (0 ≤ (ji57)) = true := decide_eq_true c58
                          clear c58
                          by_cases c59 : (ji57) < (t1225.length : Int)
                          · rw [if_pos c59] at H
                            have c59b0 : decide ((ji57) < (t1225.length : Int)) = true := decide_eq_true c59
                            clear c59
                            by_cases c60 : (rd t1225 x108_2) < 0
                            · rw [if_pos c60] at H
                              have c60b0 : decide ((rd t1225 x108_2) < 0) = true := decide_eq_true c60
                              clear c60
                              exact absurd (Option.some.inj H) (by rw [hr1_.out]; decide)
                            · rw [if_neg c60] at H
                              have c60b0 : decide ((rd t1225 x108_2) < 0) = false := decide_eq_false c60
                              clear c60
                              by_cases c61 : (rd t1225 x108_2) ≥ (t1215.length : Int)
                              · rw [if_pos c61] at H
                                have c61b0 : decide ((t1215.length : Int) ≤ (rd t1225 x108_2)) = true := decide_eq_true c61
                                clear c61
                                exact absurd (Option.some.inj H) (by rw [hr1_.out]; decide)
                              · rw [if_neg c61] at H
                                have c61b0 : decide ((t1215.length : Int) ≤ (rd t1225 x108_2)) = false := decide_eq_false c61
                                clear c61
                                by_cases c62 : x108_2 < (t1230.size : Int)
                                · rw [if_pos c62] at H
                                  have c62b0 : decide (x108_2 < (t1230.size : Int)) = true := decide_eq_true c62
                                  clear c62
                                  by_cases c64 : (bt t1230 x108_2) = 114
                                  · rw [if_pos c64] at H
                                    have c64b0 : ((bt t1230 x108_2) == 114) = true := beq_iff_eq.mpr c64
                                    have c64b1 : ((bt t1230 x108_2) != 114) = false := bne_eq_false_iff_eq.mpr c64
                                    clear c64
                                    by_cases c65 : 0 ≤ (rd t1225 x108_2)
                                    · rw [if_pos c65] at H
                                      have c65b0 : decide (0 ≤ (rd t1225 x108_2)) = true := decide_eq_true c65
                                      clear c65
                                      by_cases c66 : (rd t1225 x108_2) < (t1215.length : Int)
                                      · rw [if_pos c66] at H
                                        have c66b0 : decide ((rd t1225 x108_2) < (t1215.length : Int)) = true := decide_eq_true c66
                                        clear c66
                                        by_cases c67 : (rd t1225 (ji57)) = (rd t1215 (rd t1225 x108_2))
                                        · rw [if_pos c67] at H
                                          have c67b0 : ((rd t1225 (ji57)) == (rd t1215 (rd t1225 x108_2))) = true := beq_iff_eq.mpr c67
                                          have c67b1 : ((rd t1225 (ji57)) != (rd t1215 (rd t1225 x108_2))) = false := bne_eq_false_iff_eq.mpr c67
                                          clear c67
                                          by_cases c69 : (rd t1225 x108_2) < (t1231.length : Int)
                                          · rw [if_pos c69] at H
                                            have c69b0 : decide ((rd t1225 x108_2) < (t1231.length : Int)) = true := decide_eq_true c69
                                            clear c69
                                            by_cases c70 : (rd t1231 (rd t1225 x108_2)) < 1
                                            · rw [if_pos c70] at H
                                              have c70b0 : decide ((rd t1231 (rd t1225 x108_2)) < 1) = true := decide_eq_true c70
                                              clear c70
                                              exact absurd (Option.some.inj H) (by rw [hr1_.out]; decide)
                                            · rw [if_neg c70] at H
                                              have c70b0 : decide ((rd t1231 (rd t1225 x108_2)) < 1) = false := decide_eq_false c70
                                              clear c70
                                              have H' := Aside0.mk H
                                              clear H
                                              have p1236 : 0 ≤ (x108_2 : Int) := of_decide_eq_true (by first | (with_reducible assumption) | assumption)
                                              have q1236 : x108_2 < (t1225.length : Int) := of_decide_eq_true (by first | (with_reducible assumption) | assumption)
                                              obtain ⟨ad1236, e1236, hx1236_0⟩ := Kd.at_int (Kd.R_reads' HO_106.out).2.2 x108_2 p1236 q1236
                                              cases e1236
                                              replace p1236 := eq_true p1236
                                              replace q1236 := eq_true q1236
                                              have p1237 : 0 ≤ ((ji57) : Int) := of_decide_eq_true (by first | (with_reducible assumption) | assumption)
                                              have q1237 : (ji57) < (t1225.length : Int) := of_decide_eq_true (by first | (with_reducible assumption) | assumption)
                                              obtain ⟨ad1237, e1237, hx1237_0⟩ := Kd.at_int (Kd.R_reads' HO_7.out).2.2 (ji57) p1237 q1237
                                              obtain rfl : ad1236 = ad1237 := (by injection e1237)
                                              replace p1237 := eq_true p1237
                                              replace q1237 := eq_true q1237
                                              have hcz71_0 : wr.cell? ⟨gb1221, 0, none⟩ = some (.slice Ao14 t1215.length co14) := (blk_cell BK1221.out 0).trans rfl
                                              have hcz71_1 : wr.cell? ⟨gb1221, 1, none⟩ = some (.slice Ao16 t1218.length co16) := (blk_cell BK1221.out 1).trans rfl
                                              have hfz71_0 := blk_frozen BK1221.out 0
                                              have hfz71_1 := blk_frozen BK1221.out 1
                                              have p63 : 0 ≤ (x108_2 : Int) := of_decide_eq_true (by first | (with_reducible assumption) | assumption)
                                              have q63 : x108_2 < (t1230.size : Int) := of_decide_eq_true (by first | (with_reducible assumption) | assumption)
                                              have hx63 := bt_at t1230 x108_2
                                              replace p63 := eq_true p63
                                              replace q63 := eq_true q63
                                              have p1238 : 0 ≤ ((rd t1225 x108_2) : Int) := of_decide_eq_true (by first | (with_reducible assumption) | assumption)
                                              have q1238 : (rd t1225 x108_2) < (t1215.length : Int) := of_decide_eq_true (by first | (with_reducible assumption) | assumption)
                                              obtain ⟨ad1238, e1238, hx1238_0⟩ := Kd.at_int (Kd.R_reads' HO_1222000.out).2.2 (rd t1225 x108_2) p1238 q1238
                                              cases e1238
                                              replace p1238 := eq_true p1238
                                              replace q1238 := eq_true q1238
                                              have p68 : 0 ≤ (x108_2 : Int) := of_decide_eq_true (by first | (with_reducible assumption) | assumption)
                                              have q68 : x108_2 < (t1230.size : Int) := of_decide_eq_true (by first | (with_reducible assumption) | assumption)
                                              have hx68 := bt_at t1230 x108_2
                                              replace p68 := eq_true p68
                                              replace q68 := eq_true q68
                                              obtain ⟨Ao72, co72, eo72⟩ := Kd.R_slice HO_11.out
                                              subst eo72
                                              have p1239 : 0 ≤ ((rd t1225 x108_2) : Int) := of_decide_eq_true (by first | (with_reducible assumption) | assumption)
                                              have q1239 : (rd t1225 x108_2) < (t1231.length : Int) := of_decide_eq_true (by first | (with_reducible assumption) | assumption)
                                              obtain ⟨ad1239, e1239, hx1239_0⟩ := Kd.at_int (Kd.R_reads' HO_11.out).2.2 (rd t1225 x108_2) p1239 q1239
                                              cases e1239
                                              replace p1239 := eq_true p1239
                                              replace q1239 := eq_true q1239
                                              go_wp2
                                              go_roundg k2
                                              case measure => have := HJ10.out; have := HK2.out; omega
                                              case rel => exact ⟨(wrap64 (x108_2 + 1)), (by first | rfl | (simp; done) | (simp [*]; done)), H', ⟨by have := HJ10.out; have := HK2.out; omega⟩, ⟨by (with_reducible repeat (first | apply Kd.R_alloc | apply Kd.R_drewN | apply Kd.R_drew)); exact HO_7.out⟩, ⟨by (with_reducible repeat (first | apply Kd.R_alloc | apply Kd.R_drewN | apply Kd.R_drew)); exact HO_11.out⟩, ⟨by (with_reducible repeat (first | apply Kd.R_alloc | apply Kd.R_drewN | apply Kd.R_drew)); exact HO_106.out⟩, ⟨by (with_reducible repeat (first | apply Kd.R_alloc | apply Kd.R_drewN | apply Kd.R_drew)); exact HO_1222000.out⟩, ⟨by (with_reducible repeat (first | apply Kd.R_alloc | apply Kd.R_drewN | apply Kd.R_drew)); exact HO_1222001.out⟩, ⟨by (with_reducible repeat (first | refine blk_drewN ?_ _ | refine blk_drew ?_ | refine blk_alloc ?_ _)); exact BK1221.out⟩, ⟨by repeat (first | (with_reducible first | exact HB.out | apply below_alloc | apply pw_below_drewN | apply below_drew1 | refine below_set ?_ GE1221.out) | exact HB.out)⟩⟩
                                          · rw [if_neg c69] at H
                                            exact absurd H (by simp)
                                        · rw [if_neg c67] at H
                                          have c67b0 : ((rd t1225 (ji57)) == (rd t1215 (rd t1225 x108_2))) = false := beq_eq_false_iff_ne.mpr c67
                                          have c67b1 : ((rd t1225 (ji57)) != (rd t1215 (rd t1225 x108_2))) = true := bne_iff_ne.mpr c67
                                          exact absurd (Option.some.inj H) (by rw [hr1_.out]; decide)
                                      · rw [if_neg c66] at H
                                        exact absurd H (by simp)
                                    · rw [if_neg c65] at H
                                      exact absurd H (by simp)
                                  · rw [if_neg c64] at H
                                    have c64b0 : ((bt t1230 x108_2) == 114) = false := beq_eq_false_iff_ne.mpr c64
                                    have c64b1 : ((bt t1230 x108_2) != 114) = true := bne_iff_ne.mpr c64
                                    by_cases c74 : 0 ≤ (rd t1225 x108_2)
                                    · rw [if_pos c74] at H
                                      have c74b0 : decide (0 ≤ (rd t1225 x108_2)) = true := decide_eq_true c74
                                      clear c74
                                      by_cases c75 : (rd t1225 x108_2) < (t1218.length : Int)
                                      · rw [if_pos c75] at H
                                        have c75b0 : decide ((rd t1225 x108_2) < (t1218.length : Int)) = true := decide_eq_true c75
                                        clear c75
                                        by_cases c76 : (rd t1225 (ji57)) = (rd t1218 (rd t1225 x108_2))
                                        · rw [if_pos c76] at H
                                          have c76b0 : ((rd t1225 (ji57)) == (rd t1218 (rd t1225 x108_2))) = true := beq_iff_eq.mpr c76
                                          have c76b1 : ((rd t1225 (ji57)) != (rd t1218 (rd t1225 x108_2))) = false := bne_eq_false_iff_eq.mpr c76
                                          clear c76
                                          by_cases c77 : (rd t1225 x108_2) < (t1231.length : Int)
                                          · rw [if_pos c77] at H
                                            have c77b0 : decide ((rd t1225 x108_2) < (t1231.length : Int)) = true := decide_eq_true c77
                                            clear c77
                                            by_cases c78 : (rd t1231 (rd t1225 x108_2)) < 1
                                            · rw [if_pos c78] at H
                                              have c78b0 : decide ((rd t1231 (rd t1225 x108_2)) < 1) = true := decide_eq_true c78
                                              clear c78
                                              exact absurd (Option.some.inj H) (by rw [hr1_.out]; decide)
                                            · rw [if_neg c78] at H
                                              have c78b0 : decide ((rd t1231 (rd t1225 x108_2)) < 1) = false := decide_eq_false c78
                                              clear c78
                                              have H' := Aside0.mk H
                                              clear H
                                              have p1236 : 0 ≤ (x108_2 : Int) := of_decide_eq_true (by first | (with_reducible assumption) | assumption)
                                              have q1236 : x108_2 < (t1225.length : Int) := of_decide_eq_true (by first | (with_reducible assumption) | assumption)
                                              obtain ⟨ad1236, e1236, hx1236_0⟩ := Kd.at_int (Kd.R_reads' HO_106.out).2.2 x108_2 p1236 q1236
                                              cases e1236
                                              replace p1236 := eq_true p1236
                                              replace q1236 := eq_true q1236
                                              have p1237 : 0 ≤ ((ji57) : Int) := of_decide_eq_true (by first | (with_reducible assumption) | assumption)
                                              have q1237 : (ji57) < (t1225.length : Int) := of_decide_eq_true (by first | (with_reducible assumption) | assumption)
                                              obtain ⟨ad1237, e1237, hx1237_0⟩ := Kd.at_int (Kd.R_reads' HO_7.out).2.2 (ji57) p1237 q1237
                                              obtain rfl : ad1236 = ad1237 := (by injection e1237)
                                              replace p1237 := eq_true p1237
                                              replace q1237 := eq_true q1237
                                              have hcz79_0 : wr.cell? ⟨gb1221, 0, none⟩ = some (.slice Ao14 t1215.length co14) := (blk_cell BK1221.out 0).trans rfl
                                              have hcz79_1 : wr.cell? ⟨gb1221, 1, none⟩ = some (.slice Ao16 t1218.length co16) := (blk_cell BK1221.out 1).trans rfl
                                              have hfz79_0 := blk_frozen BK1221.out 0
                                              have hfz79_1 := blk_frozen BK1221.out 1
                                              have p63 : 0 ≤ (x108_2 : Int) := of_decide_eq_true (by first | (with_reducible assumption) | assumption)
                                              have q63 : x108_2 < (t1230.size : Int) := of_decide_eq_true (by first | (with_reducible assumption) | assumption)
                                              have hx63 := bt_at t1230 x108_2
                                              replace p63 := eq_true p63
                                              replace q63 := eq_true q63
                                              have p73 : 0 ≤ (x108_2 : Int) := of_decide_eq_true (by first | (with_reducible assumption) | assumption)
                                              have q73 : x108_2 < (t1230.size : Int) := of_decide_eq_true (by first | (with_reducible assumption) | assumption)
                                              have hx73 := bt_at t1230 x108_2
                                              replace p73 := eq_true p73
                                              replace q73 := eq_true q73
                                              have p1240 : 0 ≤ ((rd t1225 x108_2) : Int) := of_decide_eq_true (by first | (with_reducible assumption) | assumption)
                                              have q1240 : (rd t1225 x108_2) < (t1218.length : Int) := of_decide_eq_true (by first | (with_reducible assumption) | assumption)
                                              obtain ⟨ad1240, e1240, hx1240_0⟩ := Kd.at_int (Kd.R_reads' HO_1222001.out).2.2 (rd t1225 x108_2) p1240 q1240
                                              cases e1240
                                              replace p1240 := eq_true p1240
                                              replace q1240 := eq_true q1240
                                              obtain ⟨Ao80, co80, eo80⟩ := Kd.R_slice HO_11.out
                                              subst eo80
                                              have p1241 : 0 ≤ ((rd t1225 x108_2) : Int) := of_decide_eq_true (by first | (with_reducible assumption) | assumption)
                                              have q1241 : (rd t1225 x108_2) < (t1231.length : Int) := of_decide_eq_true (by first | (with_reducible assumption) | assumption)
                                              obtain ⟨ad1241, e1241, hx1241_0⟩ := Kd.at_int (Kd.R_reads' HO_11.out).2.2 (rd t1225 x108_2) p1241 q1241
                                              cases e1241
                                              replace p1241 := eq_true p1241
                                              replace q1241 := eq_true q1241
                                              go_wp2
                                              go_roundg k2
                                              case measure => have := HJ10.out; have := HK2.out; omega
                                              case rel => exact ⟨(wrap64 (x108_2 + 1)), (by first | rfl | (simp; done) | (simp [*]; done)), H', ⟨by have := HJ10.out; have := HK2.out; omega⟩, ⟨by (with_reducible repeat (first | apply Kd.R_alloc | apply Kd.R_drewN | apply Kd.R_drew)); exact HO_7.out⟩, ⟨by (with_reducible repeat (first | apply Kd.R_alloc | apply Kd.R_drewN | apply Kd.R_drew)); exact HO_11.out⟩, ⟨by (with_reducible repeat (first | apply Kd.R_alloc | apply Kd.R_drewN | apply Kd.R_drew)); exact HO_106.out⟩, ⟨by (with_reducible repeat (first | apply Kd.R_alloc | apply Kd.R_drewN | apply Kd.R_drew)); exact HO_1222000.out⟩, ⟨by (with_reducible repeat (first | apply Kd.R_alloc | apply Kd.R_drewN | apply Kd.R_drew)); exact HO_1222001.out⟩, ⟨by (with_reducible repeat (first | refine blk_drewN ?_ _ | refine blk_drew ?_ | refine blk_alloc ?_ _)); exact BK1221.out⟩, ⟨by repeat (first | (with_reducible first | exact HB.out | apply below_alloc | apply pw_below_drewN | apply below_drew1 | refine below_set ?_ GE1221.out) | exact HB.out)⟩⟩
                                          · rw [if_neg c77] at H
                                            exact absurd H (by simp)
                                        · rw [if_neg c76] at H
                                          have c76b0 : ((rd t1225 (ji57)) == (rd t1218 (rd t1225 x108_2))) = false := beq_eq_false_iff_ne.mpr c76
                                          have c76b1 : ((rd t1225 (ji57)) != (rd t1218 (rd t1225 x108_2))) = true := bne_iff_ne.mpr c76
                                          exact absurd (Option.some.inj H) (by rw [hr1_.out]; decide)
                                      · rw [if_neg c75] at H
                                        exact absurd H (by simp)
                                    · rw [if_neg c74] at H
                                      exact absurd H (by simp)
                                · rw [if_neg c62] at H
                                  exact absurd H (by simp)
                          · rw [if_neg c59] at H
                            exact absurd H (by simp)
                        · rw [if_neg c58] at H
                          exact absurd H (by simp)
                    · rw [if_neg c55] at H
                      exact absurd H (by simp)
                  · rw [if_neg c54] at H
                    exact absurd H (by simp)
                · rw [if_neg c53] at H
                  have c53b0 : decide (x108_2 < (t1225.length : Int)) = false := decide_eq_false c53
                  clear c53
                  obtain rfl := Option.some.inj H
                  go_wp2
                  go_ret
                  exact ⟨by first | rfl | (simp [errW_none, errW_some] <;> rfl) | (simp [*, errW_none, errW_some] <;> rfl), by repeat (first | (with_reducible first | exact HB.out | apply below_alloc | apply pw_below_drewN | apply below_drew1 | refine below_set ?_ GE1221.out) | exact HB.out)⟩
end Go.Proofs.Ytbdnellgioimbaa.A
end
section
/- Plain mathematics: permutations as lists of numbers. No conditions. -/
namespace Go.Proofs.Ytbdnellgioimbaa.M
set_option linter.unusedVariables false
set_option linter.unusedSimpArgs false
def I (l : List Nat) : List Int := l.map Int.ofNat
def g (p : List Nat) (i : Nat) : Nat := p.getD i 0
def tab (n : Nat) (f : Nat → Nat) : List Nat := (List.range n).map f
theorem I_len (l : List Nat) : (I l).length = l.length := by simp [I]
theorem I_inj {a b : List Nat} (h : I a = I b) : a = b := by
  unfold I at h
  exact (List.map_inj_right (fun x y hxy => Int.ofNat.inj hxy)).mp h
theorem tab_len (n : Nat) (f : Nat → Nat) : (tab n f).length = n := by simp [tab]
theorem g_tab {n : Nat} {f : Nat → Nat} {i : Nat} (h : i < n) : g (tab n f) i = f i := by simp [g, tab, List.getD_eq_getElem?_getD, h]
theorem g_get {p : List Nat} {i : Nat} (h : i < p.length) : g p i = p[i] := by simp [g, List.getD_eq_getElem?_getD, h]
theorem g_mem {p : List Nat} {i : Nat} (h : i < p.length) : g p i ∈ p := by rw [g_get h]; exact List.getElem_mem h
theorem mem_g {p : List Nat} {x : Nat} (h : x ∈ p) : ∃ i, i < p.length ∧ g p i = x := by
  obtain ⟨i, hi, rfl⟩ := List.mem_iff_getElem.mp h
  exact ⟨i, hi, g_get hi⟩
theorem ext_g {a b : List Nat} (hl : a.length = b.length) (h : ∀ i, i < a.length → g a i = g b i) : a = b := by
  apply List.ext_getElem hl
  intro i h1 h2
  rw [← g_get h1, ← g_get h2]
  exact h i h1
theorem eq_tab {l : List Nat} {n : Nat} {f : Nat → Nat} (hl : l.length = n) (h : ∀ i, i < n → g l i = f i) : l = tab n f :=
  ext_g (by rw [tab_len, hl]) (fun i hi => by rw [hl] at hi; rw [g_tab hi, h i hi])
theorem g_set {p : List Nat} {i x j : Nat} (h : i < p.length) : g (p.set i x) j = if i = j then x else g p j := by
  unfold g
  rw [List.getD_eq_getElem?_getD, List.getD_eq_getElem?_getD, List.getElem?_set]
  by_cases e : i = j
  · subst e
    simp [h]
  · simp [e]
theorem I_set (p : List Nat) (i x : Nat) : (I p).set i (x : Int) = I (p.set i x) := by simp [I, List.map_set]
theorem I_snoc (p : List Nat) (x : Nat) : I p ++ [(x : Int)] = I (p ++ [x]) := by simp [I]
theorem I_rep (n x : Nat) : I (List.replicate n x) = List.replicate n (x : Int) := by simp [I]
structure IsP (p : List Nat) : Prop where
  lt : ∀ x ∈ p, x < p.length
  nd : p.Nodup
instance (p : List Nat) : Decidable (IsP p) := decidable_of_iff ((∀ x ∈ p, x < p.length) ∧ p.Nodup) ⟨fun h => ⟨h.1, h.2⟩, fun h => ⟨h.lt, h.nd⟩⟩
theorem nodup_le (n : Nat) : ∀ l : List Nat, l.Nodup → (∀ x ∈ l, x < n) → l.length ≤ n := by
  induction n with
  | zero =>
    intro l _ h
    cases l with
    | nil => simp
    | cons a l => exact absurd (h a (by simp)) (by omega)
  | succ n ih =>
    intro l hn h
    have h1 := ih (l.erase n) (hn.erase n) (fun x hx => by
      have h2 := (List.Nodup.mem_erase_iff hn).mp hx
      have h3 := h x h2.2
      have h4 := h2.1
      omega)
    have h5 := @List.length_erase _ _ _ n l
    split at h5 <;> omega
theorem mem_all {p : List Nat} (hp : IsP p) {x : Nat} (h : x < p.length) : x ∈ p := by
  apply Classical.byContradiction
  intro hx
  have := nodup_le p.length (x :: p) (List.nodup_cons.mpr ⟨hx, hp.nd⟩) (fun y hy => by
    rcases List.mem_cons.mp hy with rfl | hy
    · exact h
    · exact hp.lt y hy)
  simp at this
  omega
theorem g_lt {p : List Nat} (hp : IsP p) {i : Nat} (h : i < p.length) : g p i < p.length := hp.lt _ (g_mem h)
theorem g_inj {p : List Nat} (hp : IsP p) {i j : Nat} (hi : i < p.length) (hj : j < p.length) (h : g p i = g p j) : i = j := by
  rw [g_get hi, g_get hj] at h
  have hw := List.pairwise_iff_getElem.mp hp.nd
  rcases Nat.lt_trichotomy i j with hij | hij | hij
  · exact absurd h (hw i j hi hj hij)
  · exact hij
  · exact absurd h.symm (hw j i hj hi hij)
def ix (p : List Nat) (x : Nat) : Nat := p.idxOf x
theorem ix_lt {p : List Nat} (hp : IsP p) {x : Nat} (h : x < p.length) : ix p x < p.length := List.idxOf_lt_length_of_mem (mem_all hp h)
theorem g_ix {p : List Nat} (hp : IsP p) {x : Nat} (h : x < p.length) : g p (ix p x) = x := by
  rw [g_get (ix_lt hp h)]
  exact List.getElem_idxOf (ix_lt hp h)
theorem ix_g {p : List Nat} (hp : IsP p) {i : Nat} (h : i < p.length) : ix p (g p i) = i :=
  g_inj hp (ix_lt hp (g_lt hp h)) h (g_ix hp (g_lt hp h))
theorem isP_mk {p : List Nat} (h1 : ∀ i, i < p.length → g p i < p.length) (h2 : ∀ i j, i < p.length → j < p.length → g p i = g p j → i = j) : IsP p := by
  refine ⟨fun x hx => ?_, ?_⟩
  · obtain ⟨i, hi, rfl⟩ := mem_g hx
    exact h1 i hi
  · refine List.pairwise_iff_getElem.mpr ?_
    intro i j hi hj hij e'
    rw [← g_get hi, ← g_get hj] at e'
    have := h2 i j hi hj e'
    omega
theorem isP_tab {n : Nat} {f : Nat → Nat} (h1 : ∀ i, i < n → f i < n) (h2 : ∀ i j, i < n → j < n → f i = f j → i = j) : IsP (tab n f) := by
  refine isP_mk (fun i hi => ?_) (fun i j hi hj e => ?_)
  · rw [tab_len] at hi ⊢; rw [g_tab hi]; exact h1 i hi
  · rw [tab_len] at hi hj; rw [g_tab hi, g_tab hj] at e; exact h2 i j hi hj e
def inv (p : List Nat) : List Nat := tab p.length (ix p)
theorem inv_len (p : List Nat) : (inv p).length = p.length := tab_len _ _
theorem g_inv {p : List Nat} {i : Nat} (h : i < p.length) : g (inv p) i = ix p i := g_tab h
theorem isP_inv {p : List Nat} (hp : IsP p) : IsP (inv p) := isP_tab (fun i hi => ix_lt hp hi) (fun i j hi hj e => by rw [← g_ix hp hi, ← g_ix hp hj, e])
def thn (p q : List Nat) : List Nat := tab p.length (fun i => g q (g p i))
theorem thn_len (p q : List Nat) : (thn p q).length = p.length := tab_len _ _
theorem g_thn {p q : List Nat} {i : Nat} (h : i < p.length) : g (thn p q) i = g q (g p i) := g_tab h
theorem isP_thn {p q : List Nat} (hp : IsP p) (hq : IsP q) (hl : p.length = q.length) : IsP (thn p q) :=
  isP_tab (fun i hi => by have h1 := g_lt hp hi; have h2 := g_lt hq (i := g p i) (by omega); omega)
    (fun i j hi hj e => g_inj hp hi hj (g_inj hq (by have := g_lt hp hi; omega) (by have := g_lt hp hj; omega) e))
def idn (n : Nat) : List Nat := tab n id
theorem idn_len (n : Nat) : (idn n).length = n := tab_len _ _
end Go.Proofs.Ytbdnellgioimbaa.M
end
section
/- Plain mathematics: permutations of whole numbers, and what is reached by two of them. No conditions. -/
namespace Go.Proofs.Ytbdnellgioimbaa.M
set_option linter.unusedVariables false
set_option linter.unusedSimpArgs false
open Go.RowKit Go.Proofs.YtbdnellgioimbaaW.PrintWords Go.Proofs.YtbdnellgioimbaaW.PrintLast Go.Proofs.YtbdnellgioimbaaW.PrintMore
theorem w64 {x : Int} (h0 : -9223372036854775808 ≤ x) (h1 : x ≤ 9223372036854775807) : wrap64 x = x := by unfold wrap64; omega
theorem w64s (i : Nat) (h : i ≤ 9000000000000000000) : wrap64 ((i : Int) + 1) = ((i + 1 : Nat) : Int) := by rw [w64 (by omega) (by omega)]; omega
theorem ev_succ {α : Type} {f : Nat → Option α} {r : α} (h : Ev (fun k => f (k + 1)) r) : Ev f r := Ev.step (fun _ => rfl) h
theorem rdI (p : List Nat) (i : Nat) : rd (I p) (i : Int) = ((g p i : Nat) : Int) := by
  unfold rd g I
  simp only [Int.toNat_natCast, List.getD_eq_getElem?_getD, List.getElem?_map]
  cases p[i]? <;> rfl
theorem rd_get (l : List Int) (i : Nat) (h : i < l.length) : rd l (i : Int) = l[i] := by
  unfold rd
  simp [List.getD_eq_getElem?_getD, h]
theorem mem_I {p : List Nat} {x : Nat} : (x : Int) ∈ I p ↔ x ∈ p := by
  unfold I
  constructor
  · intro h
    obtain ⟨y, hy, e⟩ := List.mem_map.mp h
    have : y = x := Int.ofNat.inj e
    exact this ▸ hy
  · intro h
    exact List.mem_map.mpr ⟨x, h, rfl⟩
def PI (l : List Int) : Prop := l.length ≤ 24 ∧ (∀ x ∈ l, 0 ≤ x ∧ x < (l.length : Int)) ∧ l.Nodup
instance : DecidablePred PI := fun l => by unfold PI; infer_instance
def permB (l : List Int) : Bool := decide (PI l)
def N (l : List Int) : List Nat := l.map Int.toNat
theorem N_I (p : List Nat) : N (I p) = p := by
  unfold N I
  rw [List.map_map]
  exact List.map_id'' (fun x => rfl) p
theorem N_len (l : List Int) : (N l).length = l.length := by simp [N]
theorem I_N {l : List Int} (h : ∀ x ∈ l, 0 ≤ x) : I (N l) = l := by
  unfold N I
  rw [List.map_map]
  conv => rhs; rw [← List.map_id l]
  apply List.map_congr_left
  intro x hx
  have := h x hx
  simp only [Function.comp, id]
  show ((x.toNat : Nat) : Int) = x
  omega
theorem PI_nat {l : List Int} (h : PI l) : ∃ p, l = I p ∧ IsP p ∧ p.length ≤ 24 := by
  obtain ⟨h1, h2, h3⟩ := h
  refine ⟨N l, (I_N (fun x hx => (h2 x hx).1)).symm, ?_, by rw [N_len]; exact h1⟩
  have e := I_N (fun x hx => (h2 x hx).1)
  refine ⟨fun x hx => ?_, ?_⟩
  · have := (h2 (x : Int) (by rw [← e]; exact mem_I.mpr hx)).2
    rw [N_len]
    omega
  · rw [← e] at h3
    unfold I at h3
    exact (List.pairwise_map.mp h3).imp (fun {a b} hab hh => hab (by rw [hh]))
theorem PI_I {p : List Nat} : PI (I p) ↔ IsP p ∧ p.length ≤ 24 := by
  constructor
  · intro h
    obtain ⟨q, e, h1, h2⟩ := PI_nat h
    have := I_inj e
    subst this
    exact ⟨h1, h2⟩
  · intro ⟨h1, h2⟩
    refine ⟨by rw [I_len]; exact h2, fun x hx => ?_, ?_⟩
    · unfold I at hx
      obtain ⟨y, hy, rfl⟩ := List.mem_map.mp hx
      have := h1.lt y hy
      rw [I_len]
      exact ⟨Int.natCast_nonneg y, Int.ofNat_lt.mpr this⟩
    · unfold I
      exact List.pairwise_map.mpr (h1.nd.imp (fun {a b} hab hh => hab (Int.ofNat.inj hh)))
theorem permB_I {p : List Nat} : permB (I p) = true ↔ IsP p ∧ p.length ≤ 24 := by
  unfold permB
  rw [decide_eq_true_iff]
  exact PI_I
def okFrom (l : List Int) (i : Nat) : Prop := ∀ j : Nat, i ≤ j → j < l.length → 0 ≤ rd l (j : Int) ∧ rd l (j : Int) < (l.length : Int) ∧ rd l (j : Int) ∉ l.take j
theorem okFrom_end (l : List Int) (i : Nat) (h : l.length ≤ i) : okFrom l i := fun j h1 h2 => by omega
theorem okFrom_step {l : List Int} {i : Nat} (h : 0 ≤ rd l (i : Int) ∧ rd l (i : Int) < (l.length : Int) ∧ rd l (i : Int) ∉ l.take i) : okFrom l i ↔ okFrom l (i + 1) := by
  constructor
  · intro k j h1 h2
    exact k j (by omega) h2
  · intro k j h1 h2
    by_cases e : j = i
    · subst e
      exact h
    · exact k j (by omega) h2
theorem okFrom_not {l : List Int} {i : Nat} (hi : i < l.length) (h : ¬ (0 ≤ rd l (i : Int) ∧ rd l (i : Int) < (l.length : Int) ∧ rd l (i : Int) ∉ l.take i)) : ¬ okFrom l i := fun k => h (k i (Nat.le_refl _) hi)
theorem okFrom_PI {l : List Int} (h : l.length ≤ 24) : okFrom l 0 ↔ PI l := by
  constructor
  · intro k
    refine ⟨h, fun x hx => ?_, ?_⟩
    · obtain ⟨i, hi, rfl⟩ := List.mem_iff_getElem.mp hx
      have := k i (Nat.zero_le _) hi
      rw [rd_get l i hi] at this
      exact ⟨this.1, this.2.1⟩
    · refine List.pairwise_iff_getElem.mpr ?_
      intro i j hi hj hij e
      have := (k j (Nat.zero_le _) hj).2.2
      rw [rd_get l j hj, ← e] at this
      exact this (List.mem_take_iff_getElem.mpr ⟨i, by omega, rfl⟩)
  · intro ⟨_, h2, h3⟩ j _ hj
    rw [rd_get l j hj]
    refine ⟨(h2 _ (List.getElem_mem hj)).1, (h2 _ (List.getElem_mem hj)).2, fun hm => ?_⟩
    obtain ⟨i, hi, e⟩ := List.mem_take_iff_getElem.mp hm
    exact List.pairwise_iff_getElem.mp h3 i j (by omega) hj (by omega) e
theorem permB_of {l : List Int} {b : Bool} (h : l.length ≤ 24) (hb : b = true ↔ okFrom l 0) : b = permB l := by
  rw [Bool.eq_iff_iff, hb, okFrom_PI h]
  unfold permB
  rw [decide_eq_true_iff]
theorem take_succ (l : List Int) (i : Nat) (h : i < l.length) : l.take (i + 1) = l.take i ++ [rd l (i : Int)] := by
  rw [rd_get l i h, List.take_append_getElem h]
def st1 (out : List Nat) (x : Nat) : List Nat := if x ∈ out then out else out ++ [x]
def bfs (p q : List Nat) : Nat → Nat → List Nat → List Nat
  | 0, _, out => out
  | f + 1, a, out => if a < out.length then bfs p q f (a + 1) (st1 (st1 out (g p (g out a))) (g q (g out a))) else out
def reach (p q : List Nat) (s : Nat) : List Nat := bfs p q (p.length + 1) 0 [s]
structure RInv (n : Nat) (out : List Nat) : Prop where
  nd : out.Nodup
  lt : ∀ x ∈ out, x < n
theorem RInv.le {n : Nat} {out : List Nat} (h : RInv n out) : out.length ≤ n := nodup_le n out h.nd h.lt
theorem RInv.st {n : Nat} {out : List Nat} {x : Nat} (h : RInv n out) (hx : x < n) : RInv n (st1 out x) := by
  unfold st1
  split
  · exact h
  · rename_i hn
    refine ⟨List.nodup_append.mpr ⟨h.nd, by simp, fun a ha b hb e => ?_⟩, fun y hy => ?_⟩
    · have : b = x := by simpa using hb
      subst this
      exact hn (e ▸ ha)
    · rcases List.mem_append.mp hy with hy | hy
      · exact h.lt y hy
      · have : y = x := by simpa using hy
        omega
theorem st1_len (out : List Nat) (x : Nat) : out.length ≤ (st1 out x).length := by
  unfold st1
  split <;> simp
theorem RInv.g {n : Nat} {out : List Nat} {a : Nat} (h : RInv n out) (ha : a < out.length) : M.g out a < n := h.lt _ (g_mem ha)
structure Sf (r u : List Nat) : Prop where
  pr : IsP r
  pu : IsP u
  le : r.length ≤ 24
  eq : u.length = r.length
  pos : 0 < r.length
  all : (reach r u 0).length = r.length
def surfB (r u : List Int) : Bool := permB r && permB u && decide (r.length = u.length) && decide (0 < r.length) && ((reach (N r) (N u) 0).length == r.length)
theorem surf_nat {r u : List Int} (h : surfB r u = true) : ∃ r' u', r = I r' ∧ u = I u' ∧ Sf r' u' := by
  unfold surfB at h
  simp only [Bool.and_eq_true, decide_eq_true_eq, beq_iff_eq] at h
  obtain ⟨⟨⟨⟨h1, h2⟩, h3⟩, h4⟩, h5⟩ := h
  obtain ⟨r', rfl, a1, a2⟩ := PI_nat (of_decide_eq_true h1)
  obtain ⟨u', rfl, b1, b2⟩ := PI_nat (of_decide_eq_true h2)
  rw [N_I, N_I, I_len] at h5
  rw [I_len, I_len] at h3
  rw [I_len] at h4
  exact ⟨r', u', rfl, rfl, a1, b1, a2, h3.symm, h4, h5⟩
theorem surfB_I {r u : List Nat} : surfB (I r) (I u) = true ↔ Sf r u := by
  constructor
  · intro h
    obtain ⟨r', u', e1, e2, hs⟩ := surf_nat h
    have := I_inj e1
    have := I_inj e2
    subst_vars
    exact hs
  · intro h
    unfold surfB
    simp only [Bool.and_eq_true, decide_eq_true_eq, beq_iff_eq]
    rw [N_I, N_I, I_len, I_len]
    exact ⟨⟨⟨⟨permB_I.mpr ⟨h.pr, h.le⟩, permB_I.mpr ⟨h.pu, by have := h.le; have := h.eq; omega⟩⟩, h.eq.symm⟩, h.pos⟩, h.all⟩
end Go.Proofs.Ytbdnellgioimbaa.M
end
section
/- The tests of permutations, program and reference, come to one plain test. No conditions. -/
namespace Go.Proofs.Ytbdnellgioimbaa.M
set_option linter.unusedVariables false
set_option linter.unusedSimpArgs false
open Go.RowKit Go.Proofs.YtbdnellgioimbaaW.PrintWords Go.Proofs.YtbdnellgioimbaaW.PrintLast Go.Proofs.YtbdnellgioimbaaW.PrintMore Go.Proofs.Ytbdnellgioimbaa.A
theorem has_ev (l : List Int) (a : Int) (hl : l.length ≤ 1000000000) : Ev (fun k => spec_l02Has.f k l a) (decide (a ∈ l)) := by
  have H : ∀ d i : Nat, i + d = l.length → Ev (fun k => spec_l02Has.l0 k a l (l.length : Int) (i : Int)) (decide (a ∈ l.drop i)) := by
    intro d
    induction d with
    | zero =>
      intro i h
      refine ev_succ ?_
      have h1 : ¬ ((i : Int) < (l.length : Int)) := by omega
      have e : decide (a ∈ l.drop i) = false := by
        rw [List.drop_of_length_le (by omega)]
        simp
      simp only [spec_l02Has.l0, h1, if_false]
      rw [e]
      exact Ev.now _
    | succ d ih =>
      intro i h
      refine ev_succ ?_
      have hi : i < l.length := by omega
      have h1 : (i : Int) < (l.length : Int) := by omega
      have h2 : (0 : Int) ≤ (i : Int) := by omega
      have h3 := w64s i (by omega)
      have e := List.drop_eq_getElem_cons hi
      rw [← rd_get l i hi] at e
      by_cases hr : rd l (i : Int) = a
      · have e2 : decide (a ∈ l.drop i) = true := by rw [e, hr]; simp
        simp only [spec_l02Has.l0, h1, h2, hr, if_true]
        rw [e2]
        exact Ev.now _
      · have e2 : decide (a ∈ l.drop i) = decide (a ∈ l.drop (i + 1)) := by
          rw [e]
          have : ¬ a = rd l (i : Int) := fun h => hr h.symm
          simp [this]
        simp only [spec_l02Has.l0, h1, h2, h3, hr, if_true, if_false]
        rw [e2]
        exact ih (i + 1) (by omega)
  have := H l.length 0 (by omega)
  simpa [spec_l02Has.f] using this
theorem in_f (x : Int) (n : Nat) (hn : n ≤ 24) : spec_l01In.f x 0 (wrap64 ((n : Int) - 1)) = some (decide (0 ≤ x ∧ x < (n : Int))) := by
  unfold spec_l01In.f
  rw [w64 (by omega) (by omega)]
  by_cases h : x ≥ 0
  · rw [if_pos h]
    congr 1
    rw [Bool.eq_iff_iff, decide_eq_true_iff, decide_eq_true_iff]
    omega
  · rw [if_neg h]
    congr 1
    symm
    rw [decide_eq_false_iff_not]
    omega
theorem spec_permOk (l : List Int) : Ev (fun k => spec_PermOk.f k l) (permB l) := by
  unfold spec_PermOk.f
  by_cases h24 : (l.length : Int) > 24
  · simp only [h24, if_true]
    have : permB l = false := by
      unfold permB
      rw [decide_eq_false_iff_not]
      intro h
      have := h.1
      omega
    rw [this]
    exact Ev.now _
  · simp only [h24, if_false]
    have H : ∀ d i : Nat, i + d = l.length → ∃ b, Ev (fun k => spec_PermOk.l0 k l l (l.length : Int) (i : Int)) b ∧ (b = true ↔ okFrom l i) := by
      intro d
      induction d with
      | zero =>
        intro i h
        refine ⟨true, ev_succ ?_, by simp [okFrom_end l i (by omega)]⟩
        have h1 : ¬ ((i : Int) < (l.length : Int)) := by omega
        simp only [spec_PermOk.l0, h1, if_false]
        exact Ev.now _
      | succ d ih =>
        intro i h
        have hi : i < l.length := by omega
        have h1 : (i : Int) < (l.length : Int) := by omega
        have h1' : (i : Int) ≤ (l.length : Int) := by omega
        have h2 : (0 : Int) ≤ (i : Int) := by omega
        have h3 := w64s i (by omega)
        have hin := in_f (rd l (i : Int)) l.length (by omega)
        by_cases c1 : 0 ≤ rd l (i : Int) ∧ rd l (i : Int) < (l.length : Int)
        · have hh := has_ev (l.take i) (rd l (i : Int)) (by rw [List.length_take]; omega)
          by_cases c2 : rd l (i : Int) ∈ l.take i
          · refine ⟨false, ev_succ ?_, by simpa using okFrom_not hi (fun h => h.2.2 c2)⟩
            simp only [spec_PermOk.l0, h1, h1', h2, hin, c1, if_true, Option.bind_some, decide_true, Int.toNat_natCast, and_self]
            refine Ev.bind hh ?_
            simp only [c2, decide_true, if_true]
            exact Ev.now _
          · obtain ⟨b, i1, i2⟩ := ih (i + 1) (by omega)
            refine ⟨b, ev_succ ?_, by rw [i2]; exact (okFrom_step ⟨c1.1, c1.2, c2⟩).symm⟩
            simp only [spec_PermOk.l0, h1, h1', h2, h3, hin, c1, if_true, Option.bind_some, decide_true, Int.toNat_natCast, and_self]
            refine Ev.bind hh ?_
            simp only [c2, decide_false, Bool.false_eq_true, if_false]
            exact i1
        · refine ⟨false, ev_succ ?_, by simpa using okFrom_not hi (fun h => c1 ⟨h.1, h.2.1⟩)⟩
          simp only [spec_PermOk.l0, h1, h2, hin, c1, if_true, if_false, Option.bind_some, decide_false, Bool.false_eq_true]
          exact Ev.now _
    obtain ⟨b, i1, i2⟩ := H l.length 0 (by omega)
    rw [← permB_of (by omega) i2]
    exact i1
theorem rdOf_nat (s : List Bool) (x : Nat) : rdOf false s (x : Int) = s.getD x false := rfl
theorem getD_set (s : List Bool) (x y : Nat) (h : x < s.length) : (s.set x true).getD y false = if x = y then true else s.getD y false := by
  rw [List.getD_eq_getElem?_getD, List.getD_eq_getElem?_getD, List.getElem?_set]
  by_cases e : x = y
  · subst e
    simp [h]
  · simp [e]
theorem impl_permOk (l : List Int) : Ev (fun k => impl_PermOk.f k l) (permB l) := by
  unfold impl_PermOk.f
  by_cases h24 : (l.length : Int) > 24
  · simp only [h24, if_true]
    have : permB l = false := by
      unfold permB
      rw [decide_eq_false_iff_not]
      intro h
      have := h.1
      omega
    rw [this]
    exact Ev.now _
  · simp only [h24, if_false]
    have H : ∀ (d i : Nat) (s : List Bool), i + d = l.length → s.length = 24 → (∀ x : Nat, x < 24 → (s.getD x false = true ↔ (x : Int) ∈ l.take i)) → ∃ b, Ev (fun k => impl_PermOk.l0 k l s (i : Int)) b ∧ (b = true ↔ okFrom l i) := by
      intro d
      induction d with
      | zero =>
        intro i s h hs hx
        refine ⟨true, ev_succ ?_, by simp [okFrom_end l i (by omega)]⟩
        have h1 : ¬ ((i : Int) < (l.length : Int)) := by omega
        simp only [impl_PermOk.l0, h1, if_false]
        exact Ev.now _
      | succ d ih =>
        intro i s h hs hx
        have hi : i < l.length := by omega
        have h1 : (i : Int) < (l.length : Int) := by omega
        have h2 : (0 : Int) ≤ (i : Int) := by omega
        have h3 := w64s i (by omega)
        by_cases c1 : rd l (i : Int) < 0
        · refine ⟨false, ev_succ ?_, by simpa using okFrom_not hi (fun h => by omega)⟩
          simp only [impl_PermOk.l0, h1, h2, c1, if_true]
          exact Ev.now _
        · by_cases c2 : rd l (i : Int) ≥ (l.length : Int)
          · refine ⟨false, ev_succ ?_, by simpa using okFrom_not hi (fun h => by omega)⟩
            simp only [impl_PermOk.l0, h1, h2, c1, c2, if_true, if_false]
            exact Ev.now _
          · obtain ⟨x, ex⟩ : ∃ x : Nat, rd l (i : Int) = (x : Int) := ⟨(rd l (i : Int)).toNat, by omega⟩
            have hx24 : x < 24 := by omega
            by_cases c3 : s.getD x false = true
            · have hm := (hx x hx24).mp c3
              refine ⟨false, ev_succ ?_, by simpa using okFrom_not hi (fun h => h.2.2 (by rw [ex]; exact hm))⟩
              rw [ex] at c1 c2
              simp only [impl_PermOk.l0, h1, h2, ex, c1, c2, rdOf_nat, c3, if_true, if_false]
              exact Ev.now _
            · have hm : (x : Int) ∉ l.take i := fun h => c3 ((hx x hx24).mpr h)
              obtain ⟨b, i1, i2⟩ := ih (i + 1) (s.set x true) (by omega) (by rw [List.length_set]; exact hs) (fun y hy => by
                rw [getD_set s x y (by omega), take_succ l i hi, ex]
                by_cases e : x = y
                · subst e
                  simp
                · rw [if_neg e, hx y hy]
                  have : ¬ (y : Int) = (x : Int) := by omega
                  simp [this])
              refine ⟨b, ev_succ ?_, by rw [i2]; exact (okFrom_step ⟨by omega, by omega, by rw [ex]; exact hm⟩).symm⟩
              rw [ex] at c1 c2
              simp only [impl_PermOk.l0, h1, h2, h3, ex, c1, c2, rdOf_nat, c3, if_true, if_false, Int.toNat_natCast]
              exact i1
    obtain ⟨b, i1, i2⟩ := H l.length 0 (List.replicate 24 false) (by omega) rfl (fun x hx => by
      have : (List.replicate 24 false).getD x false = false := by
        rw [List.getD_eq_getElem?_getD, List.getElem?_replicate]
        simp [hx]
      rw [this]
      simp)
    rw [← permB_of (by omega) i2]
    exact i1
end Go.Proofs.Ytbdnellgioimbaa.M
end
section
/- The tests of surfaces, program and reference, come to one plain test. No conditions. -/
namespace Go.Proofs.Ytbdnellgioimbaa.M
set_option linter.unusedVariables false
set_option linter.unusedSimpArgs false
open Go.RowKit Go.Proofs.YtbdnellgioimbaaW.PrintWords Go.Proofs.YtbdnellgioimbaaW.PrintLast Go.Proofs.YtbdnellgioimbaaW.PrintMore Go.Proofs.Ytbdnellgioimbaa.A
theorem I_pair (a b : Nat) : ([(a : Int), (b : Int)] : List Int) = I [a, b] := rfl
theorem I_len' (l : List Nat) : ((I l).length : Int) = (l.length : Int) := by rw [I_len]
theorem st1_I (out : List Nat) (x : Nat) : I (st1 out x) = if (x : Int) ∈ I out then I out else I out ++ [(x : Int)] := by
  unfold st1
  by_cases h : x ∈ out
  · rw [if_pos h, if_pos (mem_I.mpr h)]
  · rw [if_neg h, if_neg (fun k => h (mem_I.mp k)), I_snoc]
theorem reach_one (p q out pr : List Nat) (a : Nat) (j : Nat) (hj : j < pr.length) (hp : pr.length ≤ 2) (hl : out.length ≤ 1000) (r : List Int)
    (H : Ev (fun k => spec_l02Reach.l1 k (I p) (I q) (I (st1 out (g pr j))) (a : Int) (I pr) (pr.length : Int) ((j + 1 : Nat) : Int)) r) :
    Ev (fun k => spec_l02Reach.l1 k (I p) (I q) (I out) (a : Int) (I pr) (pr.length : Int) (j : Int)) r := by
  refine ev_succ ?_
  have h1 : (j : Int) < (pr.length : Int) := by omega
  have h2 : (0 : Int) ≤ (j : Int) := by omega
  have h3 := w64s j (by omega)
  have h4 : (I out).length < 17592186044416 := by rw [I_len]; omega
  have hh := has_ev (I out) ((g pr j : Nat) : Int) (by rw [I_len]; omega)
  simp only [spec_l02Reach.l1, h1, h2, h3, h4, rdI, I_len', if_true]
  refine Ev.bind hh ?_
  rw [st1_I] at H
  by_cases hm : ((g pr j : Nat) : Int) ∈ I out
  · rw [if_pos hm] at H
    simp only [hm, decide_true, if_true]
    exact H
  · rw [if_neg hm] at H
    simp only [hm, decide_false, Bool.false_eq_true, if_false]
    exact H
theorem reach_loop {p q : List Nat} (hp : IsP p) (hq : IsP q) (hl : q.length = p.length) (h24 : p.length ≤ 24) (f : Nat) : ∀ (a : Nat) (out : List Nat), RInv p.length out → a ≤ out.length → p.length < f + a →
    Ev (fun k => spec_l02Reach.l0 k (I p) (I q) (I out) (a : Int)) (I (bfs p q f a out)) := by
  induction f with
  | zero =>
    intro a out hr ha hf
    have := hr.le
    omega
  | succ f ih =>
    intro a out hr ha hf
    have hle := hr.le
    refine ev_succ ?_
    by_cases h : a < out.length
    · have h1 : (a : Int) < (out.length : Int) := by omega
      have h2 : (0 : Int) ≤ (a : Int) := by omega
      have hx := hr.g h
      have h3 : ((g out a : Nat) : Int) < (p.length : Int) := by omega
      have h4 : (0 : Int) ≤ ((g out a : Nat) : Int) := by omega
      have h5 : ((g out a : Nat) : Int) < (q.length : Int) := by omega
      have h6 := w64s a (by omega)
      simp only [spec_l02Reach.l0, h1, h2, h3, h4, h5, rdI, I_len', if_true, Option.bind_some, I_pair]
      have r1 := hr.st (g_lt hp hx)
      have r2 := r1.st (x := g q (g out a)) (by have := g_lt hq (i := g out a) (by omega); omega)
      have hb : bfs p q (f + 1) a out = bfs p q f (a + 1) (st1 (st1 out (g p (g out a))) (g q (g out a))) := by
        rw [bfs, if_pos h]
      rw [hb]
      have i1 := ih (a + 1) _ r2 (by have := st1_len out (g p (g out a)); have := st1_len (st1 out (g p (g out a))) (g q (g out a)); omega) (by omega)
      refine reach_one p q out [g p (g out a), g q (g out a)] a 0 (by simp) (by simp) (by omega) _ ?_
      refine reach_one p q _ [g p (g out a), g q (g out a)] a 1 (by simp) (by simp) (by have := r1.le; simp only [g, List.getD_cons_zero] at this ⊢; omega) _ ?_
      refine ev_succ ?_
      have h7 : ¬ (((1 + 1 : Nat) : Int) < (([g p (g out a), g q (g out a)] : List Nat).length : Int)) := by simp
      simp only [spec_l02Reach.l1, h7, h6, if_false]
      exact i1
    · have h1 : ¬ ((a : Int) < (out.length : Int)) := by omega
      have hb : bfs p q (f + 1) a out = out := by rw [bfs, if_neg h]
      rw [hb]
      simp only [spec_l02Reach.l0, h1, I_len', if_false]
      exact Ev.now _
theorem reach_ev {p q : List Nat} (hp : IsP p) (hq : IsP q) (hl : q.length = p.length) (h24 : p.length ≤ 24) (s : Nat) (hs : s < p.length) : Ev (fun k => spec_l02Reach.f k (I p) (I q) (s : Int)) (I (reach p q s)) := by
  unfold spec_l02Reach.f reach
  exact reach_loop hp hq hl h24 (p.length + 1) 0 [s] ⟨by simp, by simpa using hs⟩ (by simp) (by omega)
theorem len_ne_false {r u : List Int} (h : r.length ≠ u.length) : surfB r u = false := by
  unfold surfB
  simp [h]
theorem surfB_mk {r u : List Int} (h1 : permB r = true) (h2 : permB u = true) (h3 : r.length = u.length) (h4 : 0 < r.length) : surfB r u = ((reach (N r) (N u) 0).length == r.length) := by
  unfold surfB
  simp [h1, h2, h3, h4]
  intro _
  omega
theorem spec_trans (r u : List Int) : Ev (fun k => spec_IsTransitive.f k r u) (surfB r u) := by
  unfold spec_IsTransitive.f
  refine Ev.bind (spec_permOk r) ?_
  by_cases h1 : permB r = true
  · simp only [h1, if_true]
    refine Ev.bind (spec_permOk u) ?_
    by_cases h2 : permB u = true
    · simp only [h2, if_true]
      by_cases h3 : (r.length : Int) = (u.length : Int)
      · have h3' : r.length = u.length := by omega
        by_cases h4 : (r.length : Int) > 0
        · have h4' : 0 < r.length := by omega
          rw [surfB_mk h1 h2 h3' h4']
          obtain ⟨p, rfl, a1, a2⟩ := PI_nat (of_decide_eq_true h1)
          obtain ⟨q, rfl, b1, b2⟩ := PI_nat (of_decide_eq_true h2)
          rw [I_len, I_len] at h3'
          rw [I_len] at h4'
          have := reach_ev a1 b1 h3'.symm a2 0 h4'
          simp only [h3, h4, if_true]
          rw [h3] at h4
          simp only [h4, if_true]
          refine Ev.bind this ?_
          rw [N_I, N_I]
          have e : (((I (reach p q 0)).length : Int) == ((I q).length : Int)) = ((reach p q 0).length == (I p).length) := by
            rw [I_len, I_len, I_len, Bool.eq_iff_iff, beq_iff_eq, beq_iff_eq]
            omega
          rw [← h3] at e
          simp only [h3] at e
          rw [← e]
          exact Ev.now _
        · simp only [h3, if_true]
          rw [h3] at h4
          simp only [h4, if_false]
          have : surfB r u = false := by
            unfold surfB
            have : ¬ 0 < r.length := by omega
            simp [this]
          rw [this]
          exact Ev.now _
      · simp only [h3, if_false]
        rw [len_ne_false (by omega)]
        exact Ev.now _
    · have h2' := Bool.eq_false_iff.mpr h2
      simp only [h2', Bool.false_eq_true, if_false]
      have : surfB r u = false := by unfold surfB; simp [h2']
      rw [this]
      exact Ev.now _
  · have h1' := Bool.eq_false_iff.mpr h1
    simp only [h1', Bool.false_eq_true, if_false]
    have : surfB r u = false := by unfold surfB; simp [h1']
    rw [this]
    exact Ev.now _
theorem spec_surf (r u : List Int) : Ev (fun k => spec_SurfaceOk.f k r u) (surfB r u) := by
  unfold spec_SurfaceOk.f
  exact Ev.bind (spec_trans r u) (Ev.now _)
def Marks (n : Nat) (s : List Bool) (out : List Nat) : Prop := s.length = n ∧ ∀ x, x < n → (s.getD x false = true ↔ x ∈ out)
theorem Marks.add {n : Nat} {s : List Bool} {out : List Nat} {x : Nat} (h : Marks n s out) (hx : x < n) : Marks n (s.set x true) (out ++ [x]) := by
  refine ⟨by rw [List.length_set]; exact h.1, fun y hy => ?_⟩
  rw [getD_set s x y (by rw [h.1]; exact hx)]
  by_cases e : x = y
  · subst e
    simp
  · rw [if_neg e, h.2 y hy]
    have : ¬ y = x := fun k => e k.symm
    simp [this]
theorem trans_one (p q out pr : List Nat) (s : List Bool) (a : Nat) (j : Nat) (hj : j < pr.length) (hp : pr.length ≤ 2) (hl : out.length ≤ 1000) (hm : Marks p.length s out) (hx : g pr j < p.length) (r : Bool)
    (H : ∀ s', Marks p.length s' (st1 out (g pr j)) → Ev (fun k => impl_IsTransitive.l1 k (I p) (I q) s' (I (st1 out (g pr j))) (a : Int) (I pr) (pr.length : Int) ((j + 1 : Nat) : Int)) r) :
    Ev (fun k => impl_IsTransitive.l1 k (I p) (I q) s (I out) (a : Int) (I pr) (pr.length : Int) (j : Int)) r := by
  refine ev_succ ?_
  have h1 : (j : Int) < (pr.length : Int) := by omega
  have h2 : (0 : Int) ≤ (j : Int) := by omega
  have h3 := w64s j (by omega)
  have h4 : (I out).length < 17592186044416 := by rw [I_len]; omega
  have h5 : (0 : Int) ≤ ((g pr j : Nat) : Int) := by omega
  have h6 : ((g pr j : Nat) : Int) < (s.length : Int) := by rw [hm.1]; omega
  simp only [impl_IsTransitive.l1, h1, h2, h3, h4, h5, h6, rdI, I_len', rdOf_nat, if_true, Int.toNat_natCast]
  by_cases hin : g pr j ∈ out
  · have hs := (hm.2 _ hx).mpr hin
    have e : st1 out (g pr j) = out := by unfold st1; rw [if_pos hin]
    have := H s (by rw [e]; exact hm)
    rw [e] at this
    simp only [hs, if_true]
    exact this
  · have hs : s.getD (g pr j) false = false := Bool.eq_false_iff.mpr (fun h => hin ((hm.2 _ hx).mp h))
    have e : st1 out (g pr j) = out ++ [g pr j] := by unfold st1; rw [if_neg hin]
    have := H (s.set (g pr j) true) (by rw [e]; exact hm.add hx)
    rw [e, ← I_snoc] at this
    simp only [hs, Bool.false_eq_true, if_false]
    exact this
theorem trans_loop {p q : List Nat} (hp : IsP p) (hq : IsP q) (hl : q.length = p.length) (h24 : p.length ≤ 24) (f : Nat) : ∀ (a : Nat) (out : List Nat) (s : List Bool), RInv p.length out → Marks p.length s out → a ≤ out.length → p.length < f + a →
    Ev (fun k => impl_IsTransitive.l0 k (I p) (I q) s (I out) (a : Int)) ((bfs p q f a out).length == p.length) := by
  induction f with
  | zero =>
    intro a out s hr hm ha hf
    have := hr.le
    omega
  | succ f ih =>
    intro a out s hr hm ha hf
    have hle := hr.le
    refine ev_succ ?_
    by_cases h : a < out.length
    · have h1 : (a : Int) < (out.length : Int) := by omega
      have h2 : (0 : Int) ≤ (a : Int) := by omega
      have hx := hr.g h
      have h3 : ((g out a : Nat) : Int) < (p.length : Int) := by omega
      have h4 : (0 : Int) ≤ ((g out a : Nat) : Int) := by omega
      have h5 : ((g out a : Nat) : Int) < (q.length : Int) := by omega
      have h6 := w64s a (by omega)
      simp only [impl_IsTransitive.l0, h1, h2, h3, h4, h5, rdI, I_len', if_true, Option.bind_some, I_pair]
      have hg1 := g_lt hp hx
      have hg2 : g q (g out a) < p.length := by have := g_lt hq (i := g out a) (by omega); omega
      have r1 := hr.st hg1
      have r2 := r1.st hg2
      have hb : bfs p q (f + 1) a out = bfs p q f (a + 1) (st1 (st1 out (g p (g out a))) (g q (g out a))) := by
        rw [bfs, if_pos h]
      rw [hb]
      refine trans_one p q out [g p (g out a), g q (g out a)] s a 0 (by simp) (by simp) (by omega) hm hg1 _ (fun s1 hm1 => ?_)
      refine trans_one p q _ [g p (g out a), g q (g out a)] s1 a 1 (by simp) (by simp) (by have := r1.le; simp only [g, List.getD_cons_zero] at this ⊢; omega) hm1 hg2 _ (fun s2 hm2 => ?_)
      refine ev_succ ?_
      have h7 : ¬ (((1 + 1 : Nat) : Int) < (([g p (g out a), g q (g out a)] : List Nat).length : Int)) := by simp
      simp only [impl_IsTransitive.l1, h7, h6, if_false]
      exact ih (a + 1) _ s2 r2 hm2 (Nat.le_trans (by omega : a + 1 ≤ out.length) (Nat.le_trans (st1_len _ _) (st1_len _ _))) (by omega)
    · have h1 : ¬ ((a : Int) < (out.length : Int)) := by omega
      have hb : bfs p q (f + 1) a out = out := by rw [bfs, if_neg h]
      rw [hb]
      simp only [impl_IsTransitive.l0, h1, I_len', if_false]
      have e : ((out.length : Int) == (p.length : Int)) = (out.length == p.length) := by
        rw [Bool.eq_iff_iff, beq_iff_eq, beq_iff_eq]
        omega
      rw [e]
      exact Ev.now _
theorem j0_true (r u : List Int) : Ev (fun k => impl_IsTransitive.j0 k r u true) false := by
  refine ev_succ ?_
  simp only [impl_IsTransitive.j0, if_true]
  exact Ev.now _
theorem impl_trans (r u : List Int) : Ev (fun k => impl_IsTransitive.f k r u) (surfB r u) := by
  unfold impl_IsTransitive.f
  refine Ev.bind (impl_permOk r) ?_
  by_cases h1 : permB r = true
  · simp only [h1, if_true]
    refine Ev.bind (impl_permOk u) ?_
    by_cases h2 : permB u = true
    · simp only [h2, if_true]
      by_cases h3 : (r.length : Int) = (u.length : Int)
      · have h3' : r.length = u.length := by omega
        simp only [h3, if_true]
        by_cases h4 : 0 < r.length
        · rw [surfB_mk h1 h2 h3' h4]
          obtain ⟨p, rfl, a1, a2⟩ := PI_nat (of_decide_eq_true h1)
          obtain ⟨q, rfl, b1, b2⟩ := PI_nat (of_decide_eq_true h2)
          rw [I_len, I_len] at h3'
          rw [I_len] at h4
          refine ev_succ ?_
          have e0 : ((q.length : Int) == 0) = false := by rw [beq_eq_false_iff_ne]; omega
          have e1 : (0 : Int) ≤ (p.length : Int) := by omega
          have e2 : ((p.length : Int)).toNat ≤ 281474976710656 := by omega
          have e3 : (0 : Int) < ((List.replicate p.length false).length : Int) := by rw [List.length_replicate]; omega
          simp only [impl_IsTransitive.j0, e0, I_len', e1, e2, Bool.false_eq_true, if_true, if_false, Option.bind_some, Int.toNat_natCast, e3]
          simp only [Int.toNat_natCast] at e2
          simp only [e2, if_true]
          rw [N_I, N_I, I_len]
          refine trans_loop a1 b1 h3'.symm a2 (p.length + 1) 0 [0] _ ⟨by simp, by simpa using h4⟩ ?_ (by simp) (by omega)
          refine ⟨by simp, fun x hx => ?_⟩
          have : (0 : Int).toNat = 0 := rfl
          rw [this, getD_set _ 0 x (by simp; omega)]
          by_cases e : 0 = x
          · subst e
            simp
          · rw [if_neg e]
            have h0 : ¬ x = 0 := fun h => e h.symm
            have : (List.replicate p.length false).getD x false = false := by
              rw [List.getD_eq_getElem?_getD, List.getElem?_replicate]
              simp [hx]
            rw [this]
            simp [h0]
        · have e0 : ((u.length : Int) == 0) = true := by rw [beq_iff_eq]; omega
          have : surfB r u = false := by unfold surfB; simp [h4]
          rw [this]
          simp only [e0]
          exact j0_true r u
      · simp only [h3, if_false]
        rw [len_ne_false (by omega)]
        exact j0_true r u
    · have h2' := Bool.eq_false_iff.mpr h2
      simp only [h2', Bool.false_eq_true, if_false]
      have : surfB r u = false := by unfold surfB; simp [h2']
      rw [this]
      exact j0_true r u
  · have h1' := Bool.eq_false_iff.mpr h1
    simp only [h1', Bool.false_eq_true, if_false]
    have : surfB r u = false := by unfold surfB; simp [h1']
    rw [this]
    exact j0_true r u
theorem impl_surf (r u : List Int) : Ev (fun k => impl_SurfaceOk.f k r u) (surfB r u) := by
  unfold impl_SurfaceOk.f
  exact Ev.bind (impl_trans r u) (Ev.now _)
end Go.Proofs.Ytbdnellgioimbaa.M
end
section
/- What every law does with its arguments; inverses. No conditions. -/
namespace Go.Proofs.Ytbdnellgioimbaa.M
set_option linter.unusedVariables false
set_option linter.unusedSimpArgs false
open Go.RowKit Go.Proofs.YtbdnellgioimbaaW.PrintWords Go.Proofs.YtbdnellgioimbaaW.PrintLast Go.Proofs.YtbdnellgioimbaaW.PrintMore Go.Proofs.Ytbdnellgioimbaa.A
theorem inv_of {p c : List Nat} (hp : IsP p) (hc : c.length = p.length) (h : ∀ j, j < p.length → g c (g p j) = j) : c = inv p := by
  refine ext_g (by rw [inv_len, hc]) (fun x hx => ?_)
  rw [hc] at hx
  rw [g_inv hx]
  have := h (ix p x) (ix_lt hp hx)
  rw [g_ix hp hx] at this
  exact this
theorem inv_step {p c : List Nat} (hp : IsP p) {i : Nat} (hi : i < p.length) (hc : c.length = p.length) (h : ∀ j, j < i → g c (g p j) = j) : ∀ j, j < i + 1 → g (c.set (g p i) i) (g p j) = j := by
  intro j hj
  rw [g_set (by rw [hc]; exact g_lt hp hi)]
  by_cases e : j = i
  · subst e
    simp
  · rw [if_neg (fun k => e (g_inj hp (by omega) hi k.symm))]
    exact h j (by omega)
theorem spec_inv {p : List Nat} (hp : IsP p) (h24 : p.length ≤ 24) : Ev (fun k => spec_l02Inverse.f k (I p)) (I (inv p)) := by
  unfold spec_l02Inverse.f
  have H : ∀ (d i : Nat) (c : List Nat), i + d = p.length → c.length = p.length → (∀ j, j < i → g c (g p j) = j) → Ev (fun k => spec_l02Inverse.l0 k (I c) (I p) (p.length : Int) (i : Int)) (I (inv p)) := by
    intro d
    induction d with
    | zero =>
      intro i c h hc hx
      refine ev_succ ?_
      have h1 : ¬ ((i : Int) < (p.length : Int)) := by omega
      rw [← inv_of hp hc (fun j hj => hx j (by omega))]
      simp only [spec_l02Inverse.l0, h1, if_false]
      exact Ev.now _
    | succ d ih =>
      intro i c h hc hx
      refine ev_succ ?_
      have hi : i < p.length := by omega
      have h1 : (i : Int) < (p.length : Int) := by omega
      have h2 : (0 : Int) ≤ (i : Int) := by omega
      have h3 := w64s i (by omega)
      have h4 : (0 : Int) ≤ ((g p i : Nat) : Int) := by omega
      have h5 : ((g p i : Nat) : Int) < (c.length : Int) := by have := g_lt hp hi; omega
      simp only [spec_l02Inverse.l0, h1, h2, h3, h4, h5, rdI, I_len', I_set, if_true, Int.toNat_natCast]
      exact ih (i + 1) _ (by omega) (by rw [List.length_set]; exact hc) (inv_step hp hi hc hx)
  have h1 : (0 : Int) ≤ (p.length : Int) := by omega
  have h2 : p.length ≤ 35184372088832 := by omega
  simp only [I_len', h1, h2, if_true, Int.toNat_natCast]
  have := H p.length 0 (List.replicate p.length 0) (by omega) (by simp) (fun j hj => by omega)
  rw [I_rep] at this
  exact this
end Go.Proofs.Ytbdnellgioimbaa.M
end
section
namespace Go.Proofs.Ytbdnellgioimbaa.A
open Go.RowKit Go.Proofs.YtbdnellgioimbaaW.PrintWords Go.Proofs.YtbdnellgioimbaaW.PrintLast Go.Proofs.YtbdnellgioimbaaW.PrintMore
attribute [local go_sem] max2_int min2_int max_two min_two max_three min_three max_four min_four
set_option linter.unusedVariables false
set_option linter.unusedSimpArgs false
def spec_l09Path.l0 : Nat → ByteArray → List Int → Int → List Int → List Int → Option (List Int)
  | 0, _, _, _, _, _ => none
  | k + 1, x1, x5, x6, x964000, x964001 => if x6 < (x1.size : Int) then (if 0 ≤ x6 then (if (bt x1 x6) = 114 then ((spec_l02Then.f k x5 x964000).bind fun t967 => (spec_l09Path.l0 k x1 t967 (wrap64 (x6 + 1)) x964000 x964001)) else ((spec_l02Then.f k x5 x964001).bind fun t970 => (spec_l09Path.l0 k x1 t970 (wrap64 (x6 + 1)) x964000 x964001))) else (none)) else (some x5)
def spec_l09Path.f (k : Nat) (l0_0 : List Int) (l0_1 : List Int) (a1 : ByteArray) : Option (List Int) := (spec_l02Identity.f k (l0_0.length : Int)).bind fun t964 => (spec_l09Path.l0 k a1 t964 0 l0_0 l0_1)
theorem spec_l09Path.mono_l : ∀ k, (∀ y0 y1 y2 y3 y4, LeO (spec_l09Path.l0 k y0 y1 y2 y3 y4) (spec_l09Path.l0 (k + 1) y0 y1 y2 y3 y4))
  | 0 => fun _ _ _ _ _ r h => by simp [spec_l09Path.l0] at h
  | k + 1 => by
    have ih0 := spec_l09Path.mono_l k
    · intro y0 y1 y2 y3 y4
      unfold spec_l09Path.l0
      repeat' first
      | (with_reducible exact ih0 _ _ _ _ _)
      | (with_reducible exact spec_l02Identity.mono _ _)
      | (with_reducible exact spec_l02Then.mono _ _ _)
      | (with_reducible exact LeO.refl _)
      | (with_reducible exact LeO.none _)
      | (with_reducible refine LeO.ite ?_ ?_)
      | (with_reducible refine LeO.bind ?_ (fun _ => ?_))
      | exact ih0 _ _ _ _ _
      | exact spec_l02Identity.mono _ _
      | exact spec_l02Then.mono _ _ _
      | exact LeO.none _
      | refine LeO.ite ?_ ?_
      | refine LeO.bind ?_ (fun _ => ?_)
theorem spec_l09Path.mono : ∀ a0 a1 a2 k, LeO (spec_l09Path.f k a0 a1 a2) (spec_l09Path.f (k + 1) a0 a1 a2) := by
  intro a0 a1 a2 k
  have ih0 := spec_l09Path.mono_l k
  unfold spec_l09Path.f
  repeat' first
      | (with_reducible exact ih0 _ _ _ _ _)
      | (with_reducible exact spec_l02Identity.mono _ _)
      | (with_reducible exact spec_l02Then.mono _ _ _)
      | (with_reducible exact LeO.refl _)
      | (with_reducible exact LeO.none _)
      | (with_reducible refine LeO.ite ?_ ?_)
      | (with_reducible refine LeO.bind ?_ (fun _ => ?_))
      | exact ih0 _ _ _ _ _
      | exact spec_l02Identity.mono _ _
      | exact spec_l02Then.mono _ _ _
      | exact LeO.none _
      | refine LeO.ite ?_ ?_
      | refine LeO.bind ?_ (fun _ => ?_)
set_option maxHeartbeats 8000000 in
set_option maxRecDepth 100000 in
theorem spec_l09Path.calls (k : Nat) (A0_0 : Option Addr) (c0_0 : Nat) (l0_0 : List Int) (A0_1 : Option Addr) (c0_1 : Nat) (l0_1 : List Int) (a1 : ByteArray) (r : List Int) (w : World) (hr0_0 : Kd.C (Kd.int .i64) w A0_0 l0_0.length l0_0) (hc0_0 : l0_0.length ≤ c0_0) (hr0_1 : Kd.C (Kd.int .i64) w A0_1 l0_1.length l0_1) (hc0_1 : l0_1.length ≤ c0_1) (h : spec_l09Path.f k l0_0 l0_1 a1 = some r) :
    Calls Try.prog 121 #[.agg #[.slice A0_0 l0_0.length c0_0, .slice A0_1 l0_1.length c0_1], .string a1] w fun e w' => ∃ v0_ : Value, e = .returned (v0_) ∧ Kd.R (Kd.int .i64) 3 w' w.heap.size (fun _ => True) v0_ r ∧ Below w.heap.size w w' := by
  have hu27 := Try.underlying27
  have HR0_0 := Aside0.mk hr0_0
  have HC0_0 := Aside0.mk hc0_0
  clear hr0_0 hc0_0
  have HR0_1 := Aside0.mk hr0_1
  have HC0_1 := Aside0.mk hc0_1
  clear hr0_1 hc0_1
  have HB := Aside0.mk (Below.refl w.heap.size w)
  have H : ((spec_l02Identity.f k (l0_0.length : Int)).bind fun t964 => (spec_l09Path.l0 k a1 t964 0 l0_0 l0_1)) = some r := h
  clear h
  replace H := Option.bind_eq_some_iff.mp H
  obtain ⟨t964, A30, H⟩ := H
  replace H : (spec_l09Path.l0 k a1 t964 0 l0_0 l0_1) = some r := H
  have A3 := Aside0.mk A30
  clear A30
  have H' := Aside0.mk H
  clear H
  go_enter Try.func121, Try.ntmps121
  go_wp2_with (first | ((with_reducible refine gate_dst (N := 2) rfl ?_); refine box_event ?hg (N := 2) ?hd (cs := #[.slice A0_0 l0_0.length c0_0, .slice A0_1 l0_1.length c0_1]) (t := 27) ?hr ?_; (case hd => rfl); (case hg => rfl); (case hr => first | (go_simp; done) | (go_simp; rfl)); intro gb963 hg w4 hbox hb; have n0_ := Aside0.mk (below_step (by repeat (first | (with_reducible first | exact HB.out | apply below_alloc | apply pw_below_drewN | apply below_drew1) | exact HB.out)) hb); have n1_ := Aside0.mk (hbox); have n2_ := Aside0.mk ((by rw [hg]; exact (below_size (by repeat (first | (with_reducible first | exact HB.out | apply below_alloc | apply pw_below_drewN | apply below_drew1) | exact HB.out))) : w.heap.size ≤ gb963)); have n3_ := Aside0.mk ((by rw [hg]; exact (below_size (by repeat (first | (with_reducible first | exact HB.out | apply below_alloc | apply pw_below_drewN | apply below_drew1) | exact HB.out))) : w.heap.size ≤ gb963)); clear HB; have HB := n0_; have BK963 := n1_; have GW963 := n2_; have GE963 := n3_; clear n0_ n1_ n2_ n3_; clear hb hbox hg; have hcz5_0 : w4.cell? ⟨gb963, 0, none⟩ = some (.slice A0_0 l0_0.length c0_0) := (blk_cell BK963.out 0).trans rfl; have hcz5_1 : w4.cell? ⟨gb963, 1, none⟩ = some (.slice A0_1 l0_1.length c0_1) := (blk_cell BK963.out 1).trans rfl; have hfz5_0 := blk_frozen BK963.out 0; have hfz5_1 := blk_frozen BK963.out 1) | ((with_reducible refine gate_callee (f := 103) rfl ?_); refine goesL_ (some 10) rfl rfl Try.func103 (by kernel_rfl) rfl #[.int .i64 (l0_0.length : Int)] rfl (by (try simp only [List.map_toArray, List.map_cons, List.map_nil]); first | done | rfl | (simp only [List.length_drop, List.length_take]; rfl)) ?_; (with_reducible refine (spec_l02Identity.calls k (l0_0.length : Int) t964 _ A3.out).mono ?_); rintro e w6 ⟨v965, rfl, ho0, hb⟩; refine ⟨_, rfl, ?_⟩; have n0_ := Aside0.mk (Kd.R_lower ho0 (below_size (by repeat (first | (with_reducible first | exact HB.out | apply below_alloc | apply pw_below_drewN | apply below_drew1 | refine below_set ?_ GE963.out) | exact HB.out)))); have n1_ := Aside0.mk (blk_below (g := gb963) (o := .cells #[.slice A0_0 l0_0.length c0_0, .slice A0_1 l0_1.length c0_1] 27 (0, 0)) (by (with_reducible repeat (first | refine blk_drewN ?_ _ | refine blk_drew ?_ | refine blk_alloc ?_ _)); exact BK963.out) hb); have n2_ := Aside0.mk (below_step (by repeat (first | (with_reducible first | exact HB.out | apply below_alloc | apply pw_below_drewN | apply below_drew1 | refine below_set ?_ GE963.out) | exact HB.out)) hb); clear BK963; clear HB; have HO966 := n0_; have BK963 := n1_; have HB := n2_; clear n0_ n1_ n2_; (try clear hb); (try clear hb2); (try clear hk); (try clear hi); (try clear ho0)))
  go_loopg [5, 6] k (fun kq v5 v6 w' => ∃ (x5_1 : List Int) (x6_1 : Int), v6 = .int .i64 x6_1 ∧ Aside0 (spec_l09Path.l0 kq a1 x5_1 x6_1 l0_0 l0_1 = some r) ∧ Aside0 (kq ≤ k) ∧ Aside0 (Kd.R (Kd.int .i64) 3 w' w.heap.size (fun _ => True) v5 x5_1) ∧ Aside0 (w'.heap[gb963]? = some (.cells #[(.slice A0_0 l0_0.length c0_0), (.slice A0_1 l0_1.length c0_1)] 27 (0, 0))) ∧ Aside0 (Below w.heap.size w w'))
  case atStart => exact ⟨(t964), (0), (by first | rfl | (simp; done) | (simp [*]; done)), H', ⟨Nat.le_refl _⟩, ⟨by (with_reducible repeat (first | apply Kd.R_alloc | apply Kd.R_drewN | apply Kd.R_drew)); exact HO966.out⟩, ⟨by (with_reducible repeat (first | refine blk_drewN ?_ _ | refine blk_drew ?_ | refine blk_alloc ?_ _)); exact BK963.out⟩, ⟨by repeat (first | (with_reducible first | exact HB.out | apply below_alloc | apply pw_below_drewN | apply below_drew1 | refine below_set ?_ GE963.out) | exact HB.out)⟩⟩
  case round =>
    clear H'
    try clear c1
    try clear p2
    try clear hcz5_0
    try clear hcz5_1
    try clear hfz5_0
    try clear hfz5_1
    obtain ⟨x5_1, x6_1, rfl, HA, HK1, HO_5, BK963, HB⟩ := hrel
    cases gk with
    | zero => exact absurd HA.out (by simp [spec_l09Path.l0])
    | succ k1 =>
      have H := HA.out
      clear HA
      simp only [spec_l09Path.l0] at H
      by_cases c7 : x6_1 < (a1.size : Int)
      · rw [if_pos c7] at H
        have c7b0 : decide (x6_1 < (a1.size : Int)) = true := decide_eq_true c7
        clear c7
        by_cases c8 : 0 ≤ x6_1
        · rw [if_pos c8] at H
          have c8b0 : decide (0 ≤ x6_1) = true := decide_eq_true c8
          clear c8
          by_cases c10 : (bt a1 x6_1) = 114
          · rw [if_pos c10] at H
            have c10b0 : ((bt a1 x6_1) == 114) = true := beq_iff_eq.mpr c10
            have c10b1 : ((bt a1 x6_1) != 114) = false := bne_eq_false_iff_eq.mpr c10
            clear c10
            replace H := Option.bind_eq_some_iff.mp H
            obtain ⟨t967, A110, H⟩ := H
            replace H : (spec_l09Path.l0 k1 a1 t967 (wrap64 (x6_1 + 1)) l0_0 l0_1) = some r := H
            have A11 := Aside0.mk A110
            clear A110
            have H' := Aside0.mk H
            clear H
            have p9 : 0 ≤ (x6_1 : Int) := of_decide_eq_true (by first | (with_reducible assumption) | assumption)
            have q9 : x6_1 < (a1.size : Int) := of_decide_eq_true (by first | (with_reducible assumption) | assumption)
            have hx9 := bt_at a1 x6_1
            replace p9 := eq_true p9
            replace q9 := eq_true q9
            have hcz12_0 : wr.cell? ⟨gb963, 0, none⟩ = some (.slice A0_0 l0_0.length c0_0) := (blk_cell BK963.out 0).trans rfl
            have hcz12_1 : wr.cell? ⟨gb963, 1, none⟩ = some (.slice A0_1 l0_1.length c0_1) := (blk_cell BK963.out 1).trans rfl
            have hfz12_0 := blk_frozen BK963.out 0
            have hfz12_1 := blk_frozen BK963.out 1
            obtain ⟨Ao13, co13, eo13⟩ := Kd.R_slice HO_5.out
            subst eo13
            go_wp2_with (first | ((with_reducible refine gate_callee (f := 102) rfl ?_); refine goesL_ (some 24) rfl rfl Try.func102 (by kernel_rfl) rfl #[.slice Ao13 x5_1.length co13, .slice A0_0 l0_0.length c0_0] rfl (by (try simp only [List.map_toArray, List.map_cons, List.map_nil]); first | done | rfl | (simp only [List.length_drop, List.length_take]; rfl)) ?_; (with_reducible refine (spec_l02Then.calls k1 _ _ x5_1 _ _ l0_0 t967 _ ?side1 ?side2 ?side3 ?side4 A11.out).mono ?_); (case side1 => repeat (first | exact (Kd.R_reads' HO_5.out).2.2 | (with_reducible refine Kd.C_alloc ?_ _) | (with_reducible refine Kd.C_drewN ?_ _) | (with_reducible refine Kd.C_drew ?_))); (case side2 => exact (Kd.R_reads' HO_5.out).2.1); (case side3 => repeat (first | exact (Kd.C_below HR0_0.out HB.out) | (with_reducible refine Kd.C_alloc ?_ _) | (with_reducible refine Kd.C_drewN ?_ _) | (with_reducible refine Kd.C_drew ?_))); (case side4 => exact HC0_0.out); rintro e w14 ⟨v968, rfl, ho0, hb⟩; refine ⟨_, rfl, ?_⟩; have n0_ := Aside0.mk (Kd.R_elder' (by (with_reducible repeat (first | apply Kd.R_alloc | apply Kd.R_drewN | apply Kd.R_drew)); exact HO_5.out) (Kd.R_base ho0) hb); have n1_ := Aside0.mk (Kd.R_lower (Kd.R_new' ho0 (Kd.R_lt (by (with_reducible repeat (first | apply Kd.R_alloc | apply Kd.R_drewN | apply Kd.R_drew)); exact HO_5.out))) (below_size (by repeat (first | (with_reducible first | exact HB.out | apply below_alloc | apply pw_below_drewN | apply below_drew1 | refine below_set ?_ GE963.out) | exact HB.out)))); have n2_ := Aside0.mk (blk_below (g := gb963) (o := .cells #[.slice A0_0 l0_0.length c0_0, .slice A0_1 l0_1.length c0_1] 27 (0, 0)) (by (with_reducible repeat (first | refine blk_drewN ?_ _ | refine blk_drew ?_ | refine blk_alloc ?_ _)); exact BK963.out) hb); have n3_ := Aside0.mk (below_step (by repeat (first | (with_reducible first | exact HB.out | apply below_alloc | apply pw_below_drewN | apply below_drew1 | refine below_set ?_ GE963.out) | exact HB.out)) hb); clear HO_5; clear BK963; clear HB; have HO_5 := n0_; have HO969 := n1_; have BK963 := n2_; have HB := n3_; clear n0_ n1_ n2_ n3_; (try clear hb); (try clear hb2); (try clear hk); (try clear hi); (try clear ho0)))
            go_roundg k1
            case measure => have := HK1.out; omega
            case rel => exact ⟨(t967), (wrap64 (x6_1 + 1)), (by first | rfl | (simp; done) | (simp [*]; done)), H', ⟨by have := HK1.out; omega⟩, ⟨by (with_reducible repeat (first | apply Kd.R_alloc | apply Kd.R_drewN | apply Kd.R_drew)); exact Kd.R_mono HO969.out (fun _ hk => trivial)⟩, ⟨by (with_reducible repeat (first | refine blk_drewN ?_ _ | refine blk_drew ?_ | refine blk_alloc ?_ _)); exact BK963.out⟩, ⟨by repeat (first | (with_reducible first | exact HB.out | apply below_alloc | apply pw_below_drewN | apply below_drew1 | refine below_set ?_ GE963.out) | exact HB.out)⟩⟩
          · rw [if_neg c10] at H
            have c10b0 : ((bt a1 x6_1) == 114) = false := beq_eq_false_iff_ne.mpr c10
            have c10b1 : ((bt a1 x6_1) != 114) = true := bne_iff_ne.mpr c10
            replace H := Option.bind_eq_some_iff.mp H
            obtain ⟨t970, A150, H⟩ := H
            replace H : (spec_l09Path.l0 k1 a1 t970 (wrap64 (x6_1 + 1)) l0_0 l0_1) = some r := H
            have A15 := Aside0.mk A150
            clear A150
            have H' := Aside0.mk H
            clear H
            have p9 : 0 ≤ (x6_1 : Int) := of_decide_eq_true (by first | (with_reducible assumption) | assumption)
            have q9 : x6_1 < (a1.size : Int) := of_decide_eq_true (by first | (with_reducible assumption) | assumption)
            have hx9 := bt_at a1 x6_1
            replace p9 := eq_true p9
            replace q9 := eq_true q9
            have hcz16_0 : wr.cell? ⟨gb963, 0, none⟩ = some (.slice A0_0 l0_0.length c0_0) := (blk_cell BK963.out 0).trans rfl
            have hcz16_1 : wr.cell? ⟨gb963, 1, none⟩ = some (.slice A0_1 l0_1.length c0_1) := (blk_cell BK963.out 1).trans rfl
            have hfz16_0 := blk_frozen BK963.out 0
            have hfz16_1 := blk_frozen BK963.out 1
            obtain ⟨Ao17, co17, eo17⟩ := Kd.R_slice HO_5.out
            subst eo17
            go_wp2_with (first | ((with_reducible refine gate_callee (f := 102) rfl ?_); refine goesL_ (some 28) rfl rfl Try.func102 (by kernel_rfl) rfl #[.slice Ao17 x5_1.length co17, .slice A0_1 l0_1.length c0_1] rfl (by (try simp only [List.map_toArray, List.map_cons, List.map_nil]); first | done | rfl | (simp only [List.length_drop, List.length_take]; rfl)) ?_; (with_reducible refine (spec_l02Then.calls k1 _ _ x5_1 _ _ l0_1 t970 _ ?side1 ?side2 ?side3 ?side4 A15.out).mono ?_); (case side1 => repeat (first | exact (Kd.R_reads' HO_5.out).2.2 | (with_reducible refine Kd.C_alloc ?_ _) | (with_reducible refine Kd.C_drewN ?_ _) | (with_reducible refine Kd.C_drew ?_))); (case side2 => exact (Kd.R_reads' HO_5.out).2.1); (case side3 => repeat (first | exact (Kd.C_below HR0_1.out HB.out) | (with_reducible refine Kd.C_alloc ?_ _) | (with_reducible refine Kd.C_drewN ?_ _) | (with_reducible refine Kd.C_drew ?_))); (case side4 => exact HC0_1.out); rintro e w18 ⟨v971, rfl, ho0, hb⟩; refine ⟨_, rfl, ?_⟩; have n0_ := Aside0.mk (Kd.R_elder' (by (with_reducible repeat (first | apply Kd.R_alloc | apply Kd.R_drewN | apply Kd.R_drew)); exact HO_5.out) (Kd.R_base ho0) hb); have n1_ := Aside0.mk (Kd.R_lower (Kd.R_new' ho0 (Kd.R_lt (by (with_reducible repeat (first | apply Kd.R_alloc | apply Kd.R_drewN | apply Kd.R_drew)); exact HO_5.out))) (below_size (by repeat (first | (with_reducible first | exact HB.out | apply below_alloc | apply pw_below_drewN | apply below_drew1 | refine below_set ?_ GE963.out) | exact HB.out)))); have n2_ := Aside0.mk (blk_below (g := gb963) (o := .cells #[.slice A0_0 l0_0.length c0_0, .slice A0_1 l0_1.length c0_1] 27 (0, 0)) (by (with_reducible repeat (first | refine blk_drewN ?_ _ | refine blk_drew ?_ | refine blk_alloc ?_ _)); exact BK963.out) hb); have n3_ := Aside0.mk (below_step (by repeat (first | (with_reducible first | exact HB.out | apply below_alloc | apply pw_below_drewN | apply below_drew1 | refine below_set ?_ GE963.out) | exact HB.out)) hb); clear HO_5; clear BK963; clear HB; have HO_5 := n0_; have HO972 := n1_; have BK963 := n2_; have HB := n3_; clear n0_ n1_ n2_ n3_; (try clear hb); (try clear hb2); (try clear hk); (try clear hi); (try clear ho0)))
            go_roundg k1
            case measure => have := HK1.out; omega
            case rel => exact ⟨(t970), (wrap64 (x6_1 + 1)), (by first | rfl | (simp; done) | (simp [*]; done)), H', ⟨by have := HK1.out; omega⟩, ⟨by (with_reducible repeat (first | apply Kd.R_alloc | apply Kd.R_drewN | apply Kd.R_drew)); exact Kd.R_mono HO972.out (fun _ hk => trivial)⟩, ⟨by (with_reducible repeat (first | refine blk_drewN ?_ _ | refine blk_drew ?_ | refine blk_alloc ?_ _)); exact BK963.out⟩, ⟨by repeat (first | (with_reducible first | exact HB.out | apply below_alloc | apply pw_below_drewN | apply below_drew1 | refine below_set ?_ GE963.out) | exact HB.out)⟩⟩
        · rw [if_neg c8] at H
          exact absurd H (by simp)
      · rw [if_neg c7] at H
        have c7b0 : decide (x6_1 < (a1.size : Int)) = false := decide_eq_false c7
        clear c7
        obtain rfl := Option.some.inj H
        go_wp2
        go_ret
        exact ⟨_, by first | rfl | (simp [errW_none, errW_some] <;> rfl) | (simp [*, errW_none, errW_some] <;> rfl), by (with_reducible repeat (first | apply Kd.R_alloc | apply Kd.R_drewN | apply Kd.R_drew)); exact HO_5.out, by repeat (first | (with_reducible first | exact HB.out | apply below_alloc | apply pw_below_drewN | apply below_drew1 | refine below_set ?_ GE963.out) | exact HB.out)⟩
end Go.Proofs.Ytbdnellgioimbaa.A
end
section
namespace Go.Proofs.Ytbdnellgioimbaa.A
open Go.RowKit Go.Proofs.YtbdnellgioimbaaW.PrintWords Go.Proofs.YtbdnellgioimbaaW.PrintLast Go.Proofs.YtbdnellgioimbaaW.PrintMore
attribute [local go_sem] max2_int min2_int max_two min_two max_three min_three max_four min_four
set_option linter.unusedVariables false
set_option linter.unusedSimpArgs false
def spec_SlopeOk.f (k : Nat) (a0 : Int) (a1 : Int) : Option (Bool) := (spec_l01In.f a0 0 12).bind fun t956 => (if t956 = true then ((spec_l01In.f a1 0 12).bind fun t957 => (if t957 = true then (if (wrap64 (a0 + a1)) ≤ 12 then ((spec_l08Gcd.f k a0 a1).bind fun t958 => (some (t958 == 1))) else (some false)) else (some false))) else (some false))
theorem spec_SlopeOk.mono : ∀ a0 a1 k, LeO (spec_SlopeOk.f k a0 a1) (spec_SlopeOk.f (k + 1) a0 a1) := by
  intro a0 a1 k
  unfold spec_SlopeOk.f
  repeat' first
      | (with_reducible exact spec_l08Gcd.mono _ _ _)
      | (with_reducible exact LeO.refl _)
      | (with_reducible exact LeO.none _)
      | (with_reducible refine LeO.ite ?_ ?_)
      | (with_reducible refine LeO.bind ?_ (fun _ => ?_))
      | exact spec_l08Gcd.mono _ _ _
      | exact LeO.none _
      | refine LeO.ite ?_ ?_
      | refine LeO.bind ?_ (fun _ => ?_)
set_option maxHeartbeats 8000000 in
set_option maxRecDepth 100000 in
theorem spec_SlopeOk.calls (k : Nat) (a0 : Int) (a1 : Int) (r : Bool) (w : World) (h : spec_SlopeOk.f k a0 a1 = some r) :
    Calls Try.prog 89 #[.int .i64 a0, .int .i64 a1] w fun e w' => e = .returned (.bool r) ∧ Drawn0 w w' := by
  have H : ((spec_l01In.f a0 0 12).bind fun t956 => (if t956 = true then ((spec_l01In.f a1 0 12).bind fun t957 => (if t957 = true then (if (wrap64 (a0 + a1)) ≤ 12 then ((spec_l08Gcd.f k a0 a1).bind fun t958 => (some (t958 == 1))) else (some false)) else (some false))) else (some false))) = some r := h
  clear h
  replace H := Option.bind_eq_some_iff.mp H
  obtain ⟨t956, A30, H⟩ := H
  replace H : (if t956 = true then ((spec_l01In.f a1 0 12).bind fun t957 => (if t957 = true then (if (wrap64 (a0 + a1)) ≤ 12 then ((spec_l08Gcd.f k a0 a1).bind fun t958 => (some (t958 == 1))) else (some false)) else (some false))) else (some false)) = some r := H
  have A3 := Aside0.mk A30
  clear A30
  by_cases c4 : t956 = true
  · subst c4
    have H1 : ((spec_l01In.f a1 0 12).bind fun t957 => (if t957 = true then (if (wrap64 (a0 + a1)) ≤ 12 then ((spec_l08Gcd.f k a0 a1).bind fun t958 => (some (t958 == 1))) else (some false)) else (some false))) = some r := by rw [if_pos rfl] at H; exact H
    clear H
    have H := H1
    clear H1
    replace H := Option.bind_eq_some_iff.mp H
    obtain ⟨t957, A50, H⟩ := H
    replace H : (if t957 = true then (if (wrap64 (a0 + a1)) ≤ 12 then ((spec_l08Gcd.f k a0 a1).bind fun t958 => (some (t958 == 1))) else (some false)) else (some false)) = some r := H
    have A5 := Aside0.mk A50
    clear A50
    by_cases c6 : t957 = true
    · subst c6
      have H1 : (if (wrap64 (a0 + a1)) ≤ 12 then ((spec_l08Gcd.f k a0 a1).bind fun t958 => (some (t958 == 1))) else (some false)) = some r := by rw [if_pos rfl] at H; exact H
      clear H
      have H := H1
      clear H1
      by_cases c7 : (wrap64 (a0 + a1)) ≤ 12
      · rw [if_pos c7] at H
        have c7b0 : decide ((wrap64 (a0 + a1)) ≤ 12) = true := decide_eq_true c7
        clear c7
        replace H := Option.bind_eq_some_iff.mp H
        obtain ⟨t958, A80, H⟩ := H
        replace H : (some (t958 == 1)) = some r := H
        have A8 := Aside0.mk A80
        clear A80
        obtain rfl := Option.some.inj H
        go_enter Try.func89, Try.ntmps89
        go_wp2_with (first | ((with_reducible refine gate_callee (f := 115) rfl ?_); refine goesL_ (some 6) rfl rfl Try.func115 (by kernel_rfl) rfl #[.int .i64 a0, .int .i64 0, .int .i64 12] rfl (by (try simp only [List.map_toArray, List.map_cons, List.map_nil]); first | done | rfl | (simp only [List.length_drop, List.length_take]; rfl)) ?_; (with_reducible refine (spec_l01In.calls a0 0 12 true _ A3.out).mono ?_); rintro e w' ⟨rfl, ⟨nd, rfl⟩⟩; refine ⟨_, rfl, ?_⟩) | (go_at_call 115; (with_reducible refine (spec_l01In.calls a1 0 12 true _ A5.out).mono ?_); rintro e w' ⟨rfl, ⟨nd, rfl⟩⟩) | (go_at_call 69; (with_reducible refine (spec_l08Gcd.calls k a0 a1 t958 _ A8.out).mono ?_); rintro e w' ⟨rfl, ⟨nd, rfl⟩⟩))
        go_ret
        exact ⟨by first | rfl | (simp; done) | (simp [*]; done), by repeat (first | exact Drawn0.refl _ | apply Drawn0.step)⟩
      · rw [if_neg c7] at H
        have c7b0 : decide ((wrap64 (a0 + a1)) ≤ 12) = false := decide_eq_false c7
        clear c7
        obtain rfl := Option.some.inj H
        go_enter Try.func89, Try.ntmps89
        go_wp2_with (first | ((with_reducible refine gate_callee (f := 115) rfl ?_); refine goesL_ (some 6) rfl rfl Try.func115 (by kernel_rfl) rfl #[.int .i64 a0, .int .i64 0, .int .i64 12] rfl (by (try simp only [List.map_toArray, List.map_cons, List.map_nil]); first | done | rfl | (simp only [List.length_drop, List.length_take]; rfl)) ?_; (with_reducible refine (spec_l01In.calls a0 0 12 true _ A3.out).mono ?_); rintro e w' ⟨rfl, ⟨nd, rfl⟩⟩; refine ⟨_, rfl, ?_⟩) | (go_at_call 115; (with_reducible refine (spec_l01In.calls a1 0 12 true _ A5.out).mono ?_); rintro e w' ⟨rfl, ⟨nd, rfl⟩⟩))
        go_ret
        exact ⟨by first | rfl | (simp; done) | (simp [*]; done), by repeat (first | exact Drawn0.refl _ | apply Drawn0.step)⟩
    · replace c6 := Bool.eq_false_iff.mpr c6
      subst c6
      have H1 : (some false) = some r := by rw [if_neg (show ¬ (false = true) by decide)] at H; exact H
      clear H
      have H := H1
      clear H1
      obtain rfl := Option.some.inj H
      go_enter Try.func89, Try.ntmps89
      go_wp2_with (first | ((with_reducible refine gate_callee (f := 115) rfl ?_); refine goesL_ (some 6) rfl rfl Try.func115 (by kernel_rfl) rfl #[.int .i64 a0, .int .i64 0, .int .i64 12] rfl (by (try simp only [List.map_toArray, List.map_cons, List.map_nil]); first | done | rfl | (simp only [List.length_drop, List.length_take]; rfl)) ?_; (with_reducible refine (spec_l01In.calls a0 0 12 true _ A3.out).mono ?_); rintro e w' ⟨rfl, ⟨nd, rfl⟩⟩; refine ⟨_, rfl, ?_⟩) | (go_at_call 115; (with_reducible refine (spec_l01In.calls a1 0 12 false _ A5.out).mono ?_); rintro e w' ⟨rfl, ⟨nd, rfl⟩⟩))
      go_ret
      exact ⟨by first | rfl | (simp; done) | (simp [*]; done), by repeat (first | exact Drawn0.refl _ | apply Drawn0.step)⟩
  · replace c4 := Bool.eq_false_iff.mpr c4
    subst c4
    have H1 : (some false) = some r := by rw [if_neg (show ¬ (false = true) by decide)] at H; exact H
    clear H
    have H := H1
    clear H1
    obtain rfl := Option.some.inj H
    go_enter Try.func89, Try.ntmps89
    go_wp2_with (first | ((with_reducible refine gate_callee (f := 115) rfl ?_); refine goesL_ (some 6) rfl rfl Try.func115 (by kernel_rfl) rfl #[.int .i64 a0, .int .i64 0, .int .i64 12] rfl (by (try simp only [List.map_toArray, List.map_cons, List.map_nil]); first | done | rfl | (simp only [List.length_drop, List.length_take]; rfl)) ?_; (with_reducible refine (spec_l01In.calls a0 0 12 false _ A3.out).mono ?_); rintro e w' ⟨rfl, ⟨nd, rfl⟩⟩; refine ⟨_, rfl, ?_⟩))
    go_ret
    exact ⟨by first | rfl | (simp; done) | (simp [*]; done), by repeat (first | exact Drawn0.refl _ | apply Drawn0.step)⟩
end Go.Proofs.Ytbdnellgioimbaa.A
end
section
namespace Go.Proofs.Ytbdnellgioimbaa.A
open Go.RowKit Go.Proofs.YtbdnellgioimbaaW.PrintWords Go.Proofs.YtbdnellgioimbaaW.PrintLast Go.Proofs.YtbdnellgioimbaaW.PrintMore
attribute [local go_sem] max2_int min2_int max_two min_two max_three min_three max_four min_four
set_option linter.unusedVariables false
set_option linter.unusedSimpArgs false
def spec_SlopeWord.l0 : Nat → Int → ByteArray → Int → Int → Option (ByteArray)
  | 0, _, _, _, _ => none
  | k + 1, x1, x5, x6, x7 => if x7 < x6 then (if x1 = 0 then (if x5.size + 1 ≤ 9223372036854775807 then (spec_SlopeWord.l0 k x1 (x5 ++ (⟨#[114]⟩ : ByteArray)) x6 (wrap64 (x7 + 1))) else (none)) else (if x6 = 0 then (none) else (if (Int.tmod (wrap64 (x7 * x1)) x6) < (Int.tmod (wrap64 ((wrap64 (x7 + 1)) * x1)) x6) then (if x5.size + 1 ≤ 9223372036854775807 then (spec_SlopeWord.l0 k x1 (x5 ++ (⟨#[114]⟩ : ByteArray)) x6 (wrap64 (x7 + 1))) else (none)) else (if x5.size + 1 ≤ 9223372036854775807 then (spec_SlopeWord.l0 k x1 (x5 ++ (⟨#[117]⟩ : ByteArray)) x6 (wrap64 (x7 + 1))) else (none))))) else (some x5)
def spec_SlopeWord.f (k : Nat) (a0 : Int) (a1 : Int) : Option (ByteArray) := (spec_SlopeOk.f k a0 a1).bind fun t959 => (if t959 = true then (spec_SlopeWord.l0 k a1 (⟨#[]⟩ : ByteArray) (wrap64 (a0 + a1)) 0) else (some (⟨#[]⟩ : ByteArray)))
theorem spec_SlopeWord.mono_l : ∀ k, (∀ y0 y1 y2 y3, LeO (spec_SlopeWord.l0 k y0 y1 y2 y3) (spec_SlopeWord.l0 (k + 1) y0 y1 y2 y3))
  | 0 => fun _ _ _ _ r h => by simp [spec_SlopeWord.l0] at h
  | k + 1 => by
    have ih0 := spec_SlopeWord.mono_l k
    · intro y0 y1 y2 y3
      unfold spec_SlopeWord.l0
      repeat' first
      | (with_reducible exact ih0 _ _ _ _)
      | (with_reducible exact spec_SlopeOk.mono _ _ _)
      | (with_reducible exact LeO.refl _)
      | (with_reducible exact LeO.none _)
      | (with_reducible refine LeO.ite ?_ ?_)
      | (with_reducible refine LeO.bind ?_ (fun _ => ?_))
      | exact ih0 _ _ _ _
      | exact spec_SlopeOk.mono _ _ _
      | exact LeO.none _
      | refine LeO.ite ?_ ?_
      | refine LeO.bind ?_ (fun _ => ?_)
theorem spec_SlopeWord.mono : ∀ a0 a1 k, LeO (spec_SlopeWord.f k a0 a1) (spec_SlopeWord.f (k + 1) a0 a1) := by
  intro a0 a1 k
  have ih0 := spec_SlopeWord.mono_l k
  unfold spec_SlopeWord.f
  repeat' first
      | (with_reducible exact ih0 _ _ _ _)
      | (with_reducible exact spec_SlopeOk.mono _ _ _)
      | (with_reducible exact LeO.refl _)
      | (with_reducible exact LeO.none _)
      | (with_reducible refine LeO.ite ?_ ?_)
      | (with_reducible refine LeO.bind ?_ (fun _ => ?_))
      | exact ih0 _ _ _ _
      | exact spec_SlopeOk.mono _ _ _
      | exact LeO.none _
      | refine LeO.ite ?_ ?_
      | refine LeO.bind ?_ (fun _ => ?_)
set_option maxHeartbeats 8000000 in
set_option maxRecDepth 100000 in
theorem spec_SlopeWord.calls (k : Nat) (a0 : Int) (a1 : Int) (r : ByteArray) (w : World) (h : spec_SlopeWord.f k a0 a1 = some r) :
    Calls Try.prog 80 #[.int .i64 a0, .int .i64 a1] w fun e w' => e = .returned (.string r) ∧ Drawn0 w w' := by
  have H : ((spec_SlopeOk.f k a0 a1).bind fun t959 => (if t959 = true then (spec_SlopeWord.l0 k a1 (⟨#[]⟩ : ByteArray) (wrap64 (a0 + a1)) 0) else (some (⟨#[]⟩ : ByteArray)))) = some r := h
  clear h
  replace H := Option.bind_eq_some_iff.mp H
  obtain ⟨t959, A30, H⟩ := H
  replace H : (if t959 = true then (spec_SlopeWord.l0 k a1 (⟨#[]⟩ : ByteArray) (wrap64 (a0 + a1)) 0) else (some (⟨#[]⟩ : ByteArray))) = some r := H
  have A3 := Aside0.mk A30
  clear A30
  by_cases c4 : t959 = true
  · subst c4
    have H1 : (spec_SlopeWord.l0 k a1 (⟨#[]⟩ : ByteArray) (wrap64 (a0 + a1)) 0) = some r := by rw [if_pos rfl] at H; exact H
    clear H
    have H := H1
    clear H1
    have H' := Aside0.mk H
    clear H
    go_enter Try.func80, Try.ntmps80
    go_wp2_with (first | (go_at_call 89; (with_reducible refine (spec_SlopeOk.calls k a0 a1 true _ A3.out).mono ?_); rintro e w' ⟨rfl, ⟨nd, rfl⟩⟩; (try first | exact ⟨rfl, _, World.drewN_drewN _ _ _⟩ | exact ⟨rfl, _, Eq.trans (World.drewN_drewN _ _ _) (congrArg (World.drewN _) (Nat.add_assoc _ _ _))⟩)))
    repeat (go_quiet (first | (go_at_call 89; (with_reducible refine (spec_SlopeOk.calls k a0 a1 true _ A3.out).mono ?_); rintro e w' ⟨rfl, ⟨nd, rfl⟩⟩; (try first | exact ⟨rfl, _, World.drewN_drewN _ _ _⟩ | exact ⟨rfl, _, Eq.trans (World.drewN_drewN _ _ _) (congrArg (World.drewN _) (Nat.add_assoc _ _ _))⟩))); try go_wp2_with (first | (go_at_call 89; (with_reducible refine (spec_SlopeOk.calls k a0 a1 true _ A3.out).mono ?_); rintro e w' ⟨rfl, ⟨nd, rfl⟩⟩; (try first | exact ⟨rfl, _, World.drewN_drewN _ _ _⟩ | exact ⟨rfl, _, Eq.trans (World.drewN_drewN _ _ _) (congrArg (World.drewN _) (Nat.add_assoc _ _ _))⟩))))
    go_loopg [5, 7] k (fun kq v5 v7 w' => ∃ (x5_1 : ByteArray) (x7_1 : Int), v5 = .string x5_1 ∧ v7 = .int .i64 x7_1 ∧ Aside0 (spec_SlopeWord.l0 kq a1 x5_1 (wrap64 (a0 + a1)) x7_1 = some r) ∧ Aside0 (kq ≤ k) ∧ Drawn0 w w')
    case atStart => exact ⟨((⟨#[]⟩ : ByteArray)), (0), (by first | rfl | (simp; done) | (simp [*]; done)), (by first | rfl | (simp; done) | (simp [*]; done)), H', ⟨Nat.le_refl _⟩, by repeat (first | exact Drawn0.refl _ | apply Drawn0.step)⟩
    case round =>
      clear H'
      try clear p2
      try clear c4
      obtain ⟨x5_1, x7_1, rfl, rfl, HA, HK1, ⟨m1, rfl⟩⟩ := hrel
      cases gk with
      | zero => exact absurd HA.out (by simp [spec_SlopeWord.l0])
      | succ k1 =>
        have H := HA.out
        clear HA
        simp only [spec_SlopeWord.l0] at H
        by_cases c5 : x7_1 < (wrap64 (a0 + a1))
        · rw [if_pos c5] at H
          have c5b0 : decide (x7_1 < (wrap64 (a0 + a1))) = true := decide_eq_true c5
          clear c5
          by_cases c6 : a1 = 0
          · rw [if_pos c6] at H
            have c6b0 : (a1 == 0) = true := beq_iff_eq.mpr c6
            have c6b1 : (a1 != 0) = false := bne_eq_false_iff_eq.mpr c6
            clear c6
            by_cases c7 : x5_1.size + 1 ≤ 9223372036854775807
            · rw [if_pos c7] at H
              have c7b0 := eq_true c7
              have c7b1 : decide (x5_1.size + 1 ≤ 9223372036854775807) = true := decide_eq_true c7
              try have c7b2 : (9223372036854775807 < x5_1.size + 1) = False := eq_false (Nat.not_lt.2 c7)
              have H' := Aside0.mk H
              clear H
              go_wp2
              repeat (go_quiet (fail); try go_wp2)
              go_roundg k1
              case measure => have := HK1.out; omega
              case rel => exact ⟨(x5_1 ++ (⟨#[114]⟩ : ByteArray)), (wrap64 (x7_1 + 1)), (by first | rfl | (simp; done) | (simp [*]; done)), (by first | rfl | (simp; done) | (simp [*]; done)), H', ⟨by have := HK1.out; omega⟩, by repeat (first | exact Drawn0.refl _ | apply Drawn0.step)⟩
            · rw [if_neg c7] at H
              exact absurd H (by simp)
          · rw [if_neg c6] at H
            have c6b0 : (a1 == 0) = false := beq_eq_false_iff_ne.mpr c6
            have c6b1 : (a1 != 0) = true := bne_iff_ne.mpr c6
            by_cases c8 : (wrap64 (a0 + a1)) = 0
            · rw [if_pos c8] at H
              exact absurd H (by simp)
            · rw [if_neg c8] at H
              have c8b0 : ((wrap64 (a0 + a1)) == 0) = false := beq_eq_false_iff_ne.mpr c8
              have c8b1 : ((wrap64 (a0 + a1)) != 0) = true := bne_iff_ne.mpr c8
              by_cases c9 : (Int.tmod (wrap64 (x7_1 * a1)) (wrap64 (a0 + a1))) < (Int.tmod (wrap64 ((wrap64 (x7_1 + 1)) * a1)) (wrap64 (a0 + a1)))
              · rw [if_pos c9] at H
                have c9b0 : decide ((Int.tmod (wrap64 (x7_1 * a1)) (wrap64 (a0 + a1))) < (Int.tmod (wrap64 ((wrap64 (x7_1 + 1)) * a1)) (wrap64 (a0 + a1)))) = true := decide_eq_true c9
                clear c9
                by_cases c10 : x5_1.size + 1 ≤ 9223372036854775807
                · rw [if_pos c10] at H
                  have c10b0 := eq_true c10
                  have c10b1 : decide (x5_1.size + 1 ≤ 9223372036854775807) = true := decide_eq_true c10
                  try have c10b2 : (9223372036854775807 < x5_1.size + 1) = False := eq_false (Nat.not_lt.2 c10)
                  have H' := Aside0.mk H
                  clear H
                  go_wp2
                  repeat (go_quiet (fail); try go_wp2)
                  go_roundg k1
                  case measure => have := HK1.out; omega
                  case rel => exact ⟨(x5_1 ++ (⟨#[114]⟩ : ByteArray)), (wrap64 (x7_1 + 1)), (by first | rfl | (simp; done) | (simp [*]; done)), (by first | rfl | (simp; done) | (simp [*]; done)), H', ⟨by have := HK1.out; omega⟩, by repeat (first | exact Drawn0.refl _ | apply Drawn0.step)⟩
                · rw [if_neg c10] at H
                  exact absurd H (by simp)
              · rw [if_neg c9] at H
                have c9b0 : decide ((Int.tmod (wrap64 (x7_1 * a1)) (wrap64 (a0 + a1))) < (Int.tmod (wrap64 ((wrap64 (x7_1 + 1)) * a1)) (wrap64 (a0 + a1)))) = false := decide_eq_false c9
                clear c9
                by_cases c11 : x5_1.size + 1 ≤ 9223372036854775807
                · rw [if_pos c11] at H
                  have c11b0 := eq_true c11
                  have c11b1 : decide (x5_1.size + 1 ≤ 9223372036854775807) = true := decide_eq_true c11
                  try have c11b2 : (9223372036854775807 < x5_1.size + 1) = False := eq_false (Nat.not_lt.2 c11)
                  have H' := Aside0.mk H
                  clear H
                  go_wp2
                  repeat (go_quiet (fail); try go_wp2)
                  go_roundg k1
                  case measure => have := HK1.out; omega
                  case rel => exact ⟨(x5_1 ++ (⟨#[117]⟩ : ByteArray)), (wrap64 (x7_1 + 1)), (by first | rfl | (simp; done) | (simp [*]; done)), (by first | rfl | (simp; done) | (simp [*]; done)), H', ⟨by have := HK1.out; omega⟩, by repeat (first | exact Drawn0.refl _ | apply Drawn0.step)⟩
                · rw [if_neg c11] at H
                  exact absurd H (by simp)
        · rw [if_neg c5] at H
          have c5b0 : decide (x7_1 < (wrap64 (a0 + a1))) = false := decide_eq_false c5
          clear c5
          obtain rfl := Option.some.inj H
          go_wp2
          repeat (go_quiet (fail); try go_wp2)
          go_ret
          exact ⟨by first | rfl | (simp; done) | (simp [*]; done), by repeat (first | exact Drawn0.refl _ | apply Drawn0.step)⟩
  · replace c4 := Bool.eq_false_iff.mpr c4
    subst c4
    have H1 : (some (⟨#[]⟩ : ByteArray)) = some r := by rw [if_neg (show ¬ (false = true) by decide)] at H; exact H
    clear H
    have H := H1
    clear H1
    obtain rfl := Option.some.inj H
    go_enter Try.func80, Try.ntmps80
    go_wp2_with (first | (go_at_call 89; (with_reducible refine (spec_SlopeOk.calls k a0 a1 false _ A3.out).mono ?_); rintro e w' ⟨rfl, ⟨nd, rfl⟩⟩; (try first | exact ⟨rfl, _, World.drewN_drewN _ _ _⟩ | exact ⟨rfl, _, Eq.trans (World.drewN_drewN _ _ _) (congrArg (World.drewN _) (Nat.add_assoc _ _ _))⟩)))
    repeat (go_quiet (first | (go_at_call 89; (with_reducible refine (spec_SlopeOk.calls k a0 a1 false _ A3.out).mono ?_); rintro e w' ⟨rfl, ⟨nd, rfl⟩⟩; (try first | exact ⟨rfl, _, World.drewN_drewN _ _ _⟩ | exact ⟨rfl, _, Eq.trans (World.drewN_drewN _ _ _) (congrArg (World.drewN _) (Nat.add_assoc _ _ _))⟩))); try go_wp2_with (first | (go_at_call 89; (with_reducible refine (spec_SlopeOk.calls k a0 a1 false _ A3.out).mono ?_); rintro e w' ⟨rfl, ⟨nd, rfl⟩⟩; (try first | exact ⟨rfl, _, World.drewN_drewN _ _ _⟩ | exact ⟨rfl, _, Eq.trans (World.drewN_drewN _ _ _) (congrArg (World.drewN _) (Nat.add_assoc _ _ _))⟩))))
    go_ret
    exact ⟨by first | rfl | (simp; done) | (simp [*]; done), by repeat (first | exact Drawn0.refl _ | apply Drawn0.step)⟩
end Go.Proofs.Ytbdnellgioimbaa.A
end
section
/- Slopes and paths: the program and the reference answer alike. No conditions. -/
namespace Go.Proofs.Ytbdnellgioimbaa.M
set_option linter.unusedVariables false
set_option linter.unusedSimpArgs false
open Go.RowKit Go.Proofs.YtbdnellgioimbaaW.PrintWords Go.Proofs.YtbdnellgioimbaaW.PrintLast Go.Proofs.YtbdnellgioimbaaW.PrintMore Go.Proofs.Ytbdnellgioimbaa.A
def slopeOkI (p q : Int) : Bool := (impl_SlopeOk.f 60 p q).getD false
def slopeWordI (p q : Int) : ByteArray := (impl_SlopeWord.f 60 p q).getD ⟨#[]⟩
theorem slope_tab : ∀ a : Fin 13, ∀ b : Fin 13, spec_SlopeOk.f 60 (a.val : Int) (b.val : Int) = some (slopeOkI (a.val : Int) (b.val : Int)) ∧ impl_SlopeOk.f 60 (a.val : Int) (b.val : Int) = some (slopeOkI (a.val : Int) (b.val : Int)) := by decide +kernel
theorem slopeW_tab : ∀ a : Fin 13, ∀ b : Fin 13, spec_SlopeWord.f 60 (a.val : Int) (b.val : Int) = some (slopeWordI (a.val : Int) (b.val : Int)) ∧ impl_SlopeWord.f 60 (a.val : Int) (b.val : Int) = some (slopeWordI (a.val : Int) (b.val : Int)) ∧ (slopeWordI (a.val : Int) (b.val : Int)).size ≤ 12 := by decide +kernel
theorem slope_out {p q : Int} (h : ¬ ((0 ≤ p ∧ p ≤ 12) ∧ (0 ≤ q ∧ q ≤ 12))) (k : Nat) : spec_SlopeOk.f k p q = some false ∧ impl_SlopeOk.f k p q = some false := by
  unfold spec_SlopeOk.f impl_SlopeOk.f spec_l01In.f
  by_cases h1 : 0 ≤ p
  · by_cases h2 : p ≤ 12
    · by_cases h3 : 0 ≤ q
      · have h4 : ¬ q ≤ 12 := by omega
        simp [h1, h2, h3, h4]
      · simp [h1, h2, h3]
    · by_cases h3 : 0 ≤ q <;> simp [h1, h2, h3]
  · simp [h1]
theorem slope_false {p q : Int} (h : ¬ ((0 ≤ p ∧ p ≤ 12) ∧ (0 ≤ q ∧ q ≤ 12))) : slopeOkI p q = false := by
  unfold slopeOkI
  rw [(slope_out h 60).2]
  rfl
theorem slopes_ev (p q : Int) : Ev (fun k => spec_SlopeOk.f k p q) (slopeOkI p q) ∧ Ev (fun k => impl_SlopeOk.f k p q) (slopeOkI p q) := by
  by_cases h : (0 ≤ p ∧ p ≤ 12) ∧ (0 ≤ q ∧ q ≤ 12)
  · obtain ⟨⟨h1, h2⟩, h3, h4⟩ := h
    obtain ⟨a, rfl⟩ : ∃ a : Nat, p = a := ⟨p.toNat, by omega⟩
    obtain ⟨b, rfl⟩ : ∃ b : Nat, q = b := ⟨q.toNat, by omega⟩
    have := slope_tab ⟨a, by omega⟩ ⟨b, by omega⟩
    exact ⟨Ev.of (fun k => spec_SlopeOk.mono _ _ k) this.1, Ev.of (fun k => impl_SlopeOk.mono _ _ k) this.2⟩
  · rw [slope_false h]
    exact ⟨⟨0, fun k _ => (slope_out h k).1⟩, ⟨0, fun k _ => (slope_out h k).2⟩⟩
theorem slope_in {p q : Int} (h : slopeOkI p q = true) : (0 ≤ p ∧ p ≤ 12) ∧ (0 ≤ q ∧ q ≤ 12) := by
  apply Classical.byContradiction
  intro k
  rw [slope_false k] at h
  cases h
theorem words_ev {p q : Int} (h : slopeOkI p q = true) : Ev (fun k => spec_SlopeWord.f k p q) (slopeWordI p q) ∧ Ev (fun k => impl_SlopeWord.f k p q) (slopeWordI p q) ∧ (slopeWordI p q).size ≤ 12 := by
  obtain ⟨⟨h1, h2⟩, h3, h4⟩ := slope_in h
  obtain ⟨a, rfl⟩ : ∃ a : Nat, p = a := ⟨p.toNat, by omega⟩
  obtain ⟨b, rfl⟩ : ∃ b : Nat, q = b := ⟨q.toNat, by omega⟩
  have := slopeW_tab ⟨a, by omega⟩ ⟨b, by omega⟩
  exact ⟨Ev.of (fun k => spec_SlopeWord.mono _ _ k) this.1, Ev.of (fun k => impl_SlopeWord.mono _ _ k) this.2.1, this.2.2⟩
theorem spec_id (n : Nat) (h : n ≤ 1000) : Ev (fun k => spec_l02Identity.f k (n : Int)) (I (idn n)) := by
  unfold spec_l02Identity.f
  have H : ∀ d i : Nat, i + d = n → Ev (fun k => spec_l02Identity.l0 k (n : Int) (I (idn i)) (i : Int)) (I (idn n)) := by
    intro d
    induction d with
    | zero =>
      intro i h
      obtain rfl : i = n := by omega
      refine ev_succ ?_
      have h1 : ¬ ((i : Int) < (i : Int)) := by omega
      simp only [spec_l02Identity.l0, h1, if_false]
      exact Ev.now _
    | succ d ih =>
      intro i h
      refine ev_succ ?_
      have h1 : (i : Int) < (n : Int) := by omega
      have h2 := w64s i (by omega)
      have h3 : (I (idn i)).length < 17592186044416 := by rw [I_len, idn_len]; omega
      have e : idn i ++ [i] = idn (i + 1) := by unfold idn tab; rw [List.range_succ]; simp
      simp only [spec_l02Identity.l0, h1, h2, h3, if_true, I_snoc, e]
      exact ih (i + 1) (by omega)
  exact H n 0 (by omega)
theorem tab_snoc (i : Nat) (f : Nat → Nat) : tab i f ++ [f i] = tab (i + 1) f := by unfold tab; rw [List.range_succ]; simp
theorem spec_then {p q : List Nat} (hp : ∀ i, i < p.length → g p i < q.length) (h : p.length ≤ 1000) : Ev (fun k => spec_l02Then.f k (I p) (I q)) (I (thn p q)) := by
  unfold spec_l02Then.f
  have H : ∀ d i : Nat, i + d = p.length → Ev (fun k => spec_l02Then.l0 k (I q) (I (tab i (fun i => g q (g p i)))) (I p) (p.length : Int) (i : Int)) (I (thn p q)) := by
    intro d
    induction d with
    | zero =>
      intro i h
      obtain rfl : i = p.length := by omega
      refine ev_succ ?_
      have h1 : ¬ ((p.length : Int) < (p.length : Int)) := by omega
      simp only [spec_l02Then.l0, h1, if_false]
      exact Ev.now _
    | succ d ih =>
      intro i h
      have hi : i < p.length := by omega
      have hg := hp i hi
      refine ev_succ ?_
      have h1 : (i : Int) < (p.length : Int) := by omega
      have h2 := w64s i (by omega)
      have h3 : (I (tab i (fun i => g q (g p i)))).length < 17592186044416 := by rw [I_len, tab_len]; omega
      have h4 : (0 : Int) ≤ (i : Int) := by omega
      have h5 : (0 : Int) ≤ ((g p i : Nat) : Int) := by omega
      have h6 : ((g p i : Nat) : Int) < (q.length : Int) := by omega
      have e := tab_snoc i (fun i => g q (g p i))
      simp only [spec_l02Then.l0, h1, h2, h3, h4, h5, h6, rdI, I_len', if_true, I_snoc, e]
      exact ih (i + 1) (by omega)
  have := H p.length 0 (by omega)
  simp only [I_len']
  exact this
def wk (r u : List Nat) (w : ByteArray) : Nat → Nat → Nat
  | 0, x => x
  | j + 1, x => if bt w (j : Int) = 114 then g r (wk r u w j x) else g u (wk r u w j x)
theorem wk_lt {r u : List Nat} (hs : Sf r u) (w : ByteArray) (j : Nat) {x : Nat} (hx : x < r.length) : wk r u w j x < r.length := by
  induction j with
  | zero => exact hx
  | succ j ih =>
    unfold wk
    split
    · exact g_lt hs.pr ih
    · have := g_lt hs.pu (i := wk r u w j x) (by rw [hs.eq]; exact ih)
      rw [hs.eq] at this
      exact this
theorem wk_inj {r u : List Nat} (hs : Sf r u) (w : ByteArray) (j : Nat) {x y : Nat} (hx : x < r.length) (hy : y < r.length) (h : wk r u w j x = wk r u w j y) : x = y := by
  induction j with
  | zero => exact h
  | succ j ih =>
    unfold wk at h
    split at h
    · exact ih (g_inj hs.pr (wk_lt hs w j hx) (wk_lt hs w j hy) h)
    · exact ih (g_inj hs.pu (by rw [hs.eq]; exact wk_lt hs w j hx) (by rw [hs.eq]; exact wk_lt hs w j hy) h)
def pathL (r u : List Nat) (w : ByteArray) : List Nat := tab r.length (wk r u w w.size)
theorem pathL_len (r u : List Nat) (w : ByteArray) : (pathL r u w).length = r.length := tab_len _ _
theorem isP_pathL {r u : List Nat} (hs : Sf r u) (w : ByteArray) : IsP (pathL r u w) :=
  isP_tab (fun i hi => wk_lt hs w _ hi) (fun i j hi hj e => wk_inj hs w _ hi hj e)
theorem spec_path {r u : List Nat} (hs : Sf r u) (w : ByteArray) (hw : w.size ≤ 1000) : Ev (fun k => spec_l09Path.f k (I r) (I u) w) (I (pathL r u w)) := by
  unfold spec_l09Path.f
  have hle := hs.le
  have hid := spec_id r.length (by omega)
  simp only [I_len']
  refine Ev.bind hid ?_
  have H : ∀ d i : Nat, i + d = w.size → Ev (fun k => spec_l09Path.l0 k w (I (tab r.length (wk r u w i))) (i : Int) (I r) (I u)) (I (pathL r u w)) := by
    intro d
    induction d with
    | zero =>
      intro i h
      obtain rfl : i = w.size := by omega
      refine ev_succ ?_
      have h1 : ¬ ((w.size : Int) < (w.size : Int)) := by omega
      simp only [spec_l09Path.l0, h1, if_false]
      exact Ev.now _
    | succ d ih =>
      intro i h
      refine ev_succ ?_
      have h1 : (i : Int) < (w.size : Int) := by omega
      have h2 : (0 : Int) ≤ (i : Int) := by omega
      have h3 := w64s i (by omega)
      have hl : (tab r.length (wk r u w i)).length = r.length := tab_len _ _
      have i1 := ih (i + 1) (by omega)
      by_cases c : bt w (i : Int) = 114
      · have t := spec_then (p := tab r.length (wk r u w i)) (q := r) (fun j hj => by rw [hl] at hj; rw [g_tab hj]; exact wk_lt hs w i hj) (by omega)
        have e : thn (tab r.length (wk r u w i)) r = tab r.length (wk r u w (i + 1)) :=
          eq_tab (by rw [thn_len, hl]) (fun j hj => by rw [g_thn (by rw [hl]; exact hj), g_tab hj, wk, if_pos c])
        rw [e] at t
        simp only [spec_l09Path.l0, h1, h2, h3, c, if_true]
        exact Ev.bind t i1
      · have t := spec_then (p := tab r.length (wk r u w i)) (q := u) (fun j hj => by rw [hl] at hj; rw [g_tab hj, hs.eq]; exact wk_lt hs w i hj) (by omega)
        have e : thn (tab r.length (wk r u w i)) u = tab r.length (wk r u w (i + 1)) :=
          eq_tab (by rw [thn_len, hl]) (fun j hj => by rw [g_thn (by rw [hl]; exact hj), g_tab hj, wk, if_neg c])
        rw [e] at t
        simp only [spec_l09Path.l0, h1, h2, h3, c, if_true, if_false]
        exact Ev.bind t i1
  exact H w.size 0 (by omega)
def pathP (r u : List Int) (p q : Int) : List Int × Bool := if surfB r u = true ∧ slopeOkI p q = true then (I (pathL (N r) (N u) (slopeWordI p q)), true) else ([], false)
theorem step_ev {r u : List Nat} (hs : Sf r u) {x : Nat} (hx : x < r.length) (c : Int) : impl_stepSquare.f (I r) (I u) (x : Int) c = some (((if c = 114 then g r x else g u x : Nat) : Nat) : Int) := by
  unfold impl_stepSquare.f
  have h1 : (0 : Int) ≤ (x : Int) := by omega
  have h2 : (x : Int) < (r.length : Int) := by omega
  have h3 : (x : Int) < (u.length : Int) := by rw [hs.eq]; omega
  by_cases h : c = 114
  · simp only [h, h1, h2, rdI, I_len', if_true]
  · simp only [h, h1, h3, rdI, I_len', if_true, if_false]
theorem impl_pathPerm (r u : List Int) (p q : Int) : Ev (fun k => impl_PathPerm.f k r u p q) (pathP r u p q) := by
  unfold impl_PathPerm.f
  refine Ev.bind (impl_surf r u) ?_
  by_cases h1 : surfB r u = true
  · simp only [h1, if_true]
    refine Ev.bind (slopes_ev p q).2 ?_
    refine ev_succ ?_
    by_cases h2 : slopeOkI p q = true
    · obtain ⟨r, u, rfl, rfl, hs⟩ := surf_nat h1
      obtain ⟨_, w2, w3⟩ := words_ev h2
      have hle := hs.le
      have e : pathP (I r) (I u) p q = (I (pathL r u (slopeWordI p q)), true) := by
        unfold pathP
        rw [if_pos ⟨h1, h2⟩, N_I, N_I]
      rw [e]
      simp only [impl_PathPerm.j0, h2, Bool.not_true, Bool.false_eq_true, if_false]
      refine Ev.bind w2 ?_
      generalize slopeWordI p q = w at w3
      have L1 : ∀ (i : Nat) (out : List Int) (res : List Int × Bool), i < r.length → out.length < 17592186044416 →
          Ev (fun k => impl_PathPerm.l0 k w (out ++ [((wk r u w w.size i : Nat) : Int)]) (r.length : Int) ((i + 1 : Nat) : Int) (I r) (I u)) res →
          ∀ d j : Nat, j + d = w.size → Ev (fun k => impl_PathPerm.l1 k w out ((wk r u w j i : Nat) : Int) (j : Int) (r.length : Int) (i : Int) (I r) (I u)) res := by
        intro i out res hi ho H d
        induction d with
        | zero =>
          intro j h
          obtain rfl : j = w.size := by omega
          refine ev_succ ?_
          have h1 : ¬ ((w.size : Int) < (w.size : Int)) := by omega
          have h2 := w64s i (by omega)
          simp only [impl_PathPerm.l1, h1, h2, ho, if_true, if_false]
          exact H
        | succ d ih =>
          intro j h
          refine ev_succ ?_
          have h1 : (j : Int) < (w.size : Int) := by omega
          have h2 : (0 : Int) ≤ (j : Int) := by omega
          have h3 := w64s j (by omega)
          have := step_ev hs (wk_lt hs w j hi) (bt w (j : Int))
          simp only [impl_PathPerm.l1, h1, h2, h3, this, if_true, Option.bind_some]
          have := ih (j + 1) (by omega)
          rw [wk] at this
          exact this
      have L0 : ∀ d i : Nat, i + d = r.length → Ev (fun k => impl_PathPerm.l0 k w (I (tab i (wk r u w w.size))) (r.length : Int) (i : Int) (I r) (I u)) (I (pathL r u w), true) := by
        intro d
        induction d with
        | zero =>
          intro i h
          obtain rfl : i = r.length := by omega
          refine ev_succ ?_
          have h1 : ¬ ((r.length : Int) < (r.length : Int)) := by omega
          simp only [impl_PathPerm.l0, h1, if_false]
          exact Ev.now _
        | succ d ih =>
          intro i h
          refine ev_succ ?_
          have h1 : (i : Int) < (r.length : Int) := by omega
          simp only [impl_PathPerm.l0, h1, if_true]
          have i1 := ih (i + 1) (by omega)
          rw [← tab_snoc, ← I_snoc] at i1
          exact L1 i _ _ (by omega) (by rw [I_len, tab_len]; omega) i1 w.size 0 (by omega)
      have := L0 r.length 0 (by omega)
      simp only [I_len']
      exact this
    · have h2' := Bool.eq_false_iff.mpr h2
      have e : pathP r u p q = ([], false) := by
        unfold pathP
        rw [if_neg (fun h => h2 h.2)]
      rw [e]
      simp only [impl_PathPerm.j0, h2', Bool.not_false, if_true]
      exact Ev.now _
  · have h1' := Bool.eq_false_iff.mpr h1
    have e : pathP r u p q = ([], false) := by
      unfold pathP
      rw [if_neg (fun h => h1 h.1)]
    rw [e]
    simp only [h1', Bool.false_eq_true, if_false]
    refine ev_succ ?_
    simp only [impl_PathPerm.j0, if_true]
    exact Ev.now _
end Go.Proofs.Ytbdnellgioimbaa.M
end
section
/- Plain mathematics: going round a permutation. No conditions. -/
namespace Go.Proofs.Ytbdnellgioimbaa.M
set_option linter.unusedVariables false
set_option linter.unusedSimpArgs false
def itr (p : List Nat) : Nat → Nat → Nat
  | 0, s => s
  | m + 1, s => g p (itr p m s)
theorem itr_lt {p : List Nat} (hp : IsP p) (m : Nat) {s : Nat} (hs : s < p.length) : itr p m s < p.length := by
  induction m with
  | zero => exact hs
  | succ m ih => exact g_lt hp ih
theorem itr_back {p : List Nat} (hp : IsP p) {s : Nat} (hs : s < p.length) (i d : Nat) (h : itr p (i + d) s = itr p i s) : itr p d s = s := by
  induction i with
  | zero =>
    have e : 0 + d = d := by omega
    rw [e] at h
    exact h
  | succ i ih =>
    have e : i + 1 + d = (i + d) + 1 := by omega
    rw [e] at h
    exact ih (g_inj hp (itr_lt hp _ hs) (itr_lt hp _ hs) h)
theorem period {p : List Nat} (hp : IsP p) {s : Nat} (hs : s < p.length) : ∃ m, 1 ≤ m ∧ m ≤ p.length ∧ itr p m s = s := by
  apply Classical.byContradiction
  intro hn
  have hd : ((List.range (p.length + 1)).map (fun m => itr p m s)).Nodup := by
    refine List.pairwise_map.mpr ?_
    refine List.pairwise_iff_getElem.mpr ?_
    intro i j hi hj hij
    rw [List.length_range] at hi hj
    rw [List.getElem_range, List.getElem_range]
    intro e
    have : itr p (j - i) s = s := itr_back hp hs i (j - i) (by
      have e2 : i + (j - i) = j := by omega
      rw [e2]
      exact e.symm)
    exact hn ⟨j - i, by omega, by omega, this⟩
  have := nodup_le p.length _ hd (fun x hx => by
    obtain ⟨m, _, rfl⟩ := List.mem_map.mp hx
    exact itr_lt hp m hs)
  simp at this
  omega
end Go.Proofs.Ytbdnellgioimbaa.M
end
section
namespace Go.Proofs.Ytbdnellgioimbaa.A
open Go.RowKit Go.Proofs.YtbdnellgioimbaaW.PrintWords Go.Proofs.YtbdnellgioimbaaW.PrintLast Go.Proofs.YtbdnellgioimbaaW.PrintMore
attribute [local go_sem] max2_int min2_int max_two min_two max_three min_three max_four min_four
set_option linter.unusedVariables false
set_option linter.unusedSimpArgs false
def spec_l13Ok.f (k : Nat) (l0_0 : List Int) (l0_1 : List Int) (a1 : Int) (a2 : Int) (a3 : Int) : Option (Bool) := (spec_SurfaceOk.f k l0_0 l0_1).bind fun t961 => (if t961 = true then (if a1 ≥ 0 then (if a1 < (l0_0.length : Int) then ((spec_SlopeOk.f k a2 a3).bind fun t962 => (some t962)) else (some false)) else (some false)) else (some false))
theorem spec_l13Ok.mono : ∀ a0 a1 a2 a3 a4 k, LeO (spec_l13Ok.f k a0 a1 a2 a3 a4) (spec_l13Ok.f (k + 1) a0 a1 a2 a3 a4) := by
  intro a0 a1 a2 a3 a4 k
  unfold spec_l13Ok.f
  repeat' first
      | (with_reducible exact spec_SlopeOk.mono _ _ _)
      | (with_reducible exact spec_SurfaceOk.mono _ _ _)
      | (with_reducible exact LeO.refl _)
      | (with_reducible exact LeO.none _)
      | (with_reducible refine LeO.ite ?_ ?_)
      | (with_reducible refine LeO.bind ?_ (fun _ => ?_))
      | exact spec_SlopeOk.mono _ _ _
      | exact spec_SurfaceOk.mono _ _ _
      | exact LeO.none _
      | refine LeO.ite ?_ ?_
      | refine LeO.bind ?_ (fun _ => ?_)
set_option maxHeartbeats 8000000 in
set_option maxRecDepth 100000 in
theorem spec_l13Ok.calls (k : Nat) (A0_0 : Option Addr) (c0_0 : Nat) (l0_0 : List Int) (A0_1 : Option Addr) (c0_1 : Nat) (l0_1 : List Int) (a1 : Int) (a2 : Int) (a3 : Int) (r : Bool) (w : World) (hr0_0 : Kd.C (Kd.int .i64) w A0_0 l0_0.length l0_0) (hc0_0 : l0_0.length ≤ c0_0) (hr0_1 : Kd.C (Kd.int .i64) w A0_1 l0_1.length l0_1) (hc0_1 : l0_1.length ≤ c0_1) (h : spec_l13Ok.f k l0_0 l0_1 a1 a2 a3 = some r) :
    Calls Try.prog 84 #[.agg #[.slice A0_0 l0_0.length c0_0, .slice A0_1 l0_1.length c0_1], .int .i64 a1, .int .i64 a2, .int .i64 a3] w fun e w' => e = .returned (.bool r) ∧ Below w.heap.size w w' := by
  have hu27 := Try.underlying27
  have HR0_0 := Aside0.mk hr0_0
  have HC0_0 := Aside0.mk hc0_0
  clear hr0_0 hc0_0
  have HR0_1 := Aside0.mk hr0_1
  have HC0_1 := Aside0.mk hc0_1
  clear hr0_1 hc0_1
  have HB := Aside0.mk (Below.refl w.heap.size w)
  have H : ((spec_SurfaceOk.f k l0_0 l0_1).bind fun t961 => (if t961 = true then (if a1 ≥ 0 then (if a1 < (l0_0.length : Int) then ((spec_SlopeOk.f k a2 a3).bind fun t962 => (some t962)) else (some false)) else (some false)) else (some false))) = some r := h
  clear h
  replace H := Option.bind_eq_some_iff.mp H
  obtain ⟨t961, A50, H⟩ := H
  replace H : (if t961 = true then (if a1 ≥ 0 then (if a1 < (l0_0.length : Int) then ((spec_SlopeOk.f k a2 a3).bind fun t962 => (some t962)) else (some false)) else (some false)) else (some false)) = some r := H
  have A5 := Aside0.mk A50
  clear A50
  by_cases c6 : t961 = true
  · subst c6
    have H1 : (if a1 ≥ 0 then (if a1 < (l0_0.length : Int) then ((spec_SlopeOk.f k a2 a3).bind fun t962 => (some t962)) else (some false)) else (some false)) = some r := by rw [if_pos rfl] at H; exact H
    clear H
    have H := H1
    clear H1
    by_cases c7 : a1 ≥ 0
    · rw [if_pos c7] at H
      have c7b0 : decide (0 ≤ a1) = true := decide_eq_true c7
      clear c7
      by_cases c8 : a1 < (l0_0.length : Int)
      · rw [if_pos c8] at H
        have c8b0 : decide (a1 < (l0_0.length : Int)) = true := decide_eq_true c8
        clear c8
        replace H := Option.bind_eq_some_iff.mp H
        obtain ⟨t962, A90, H⟩ := H
        replace H : (some t962) = some r := H
        have A9 := Aside0.mk A90
        clear A90
        obtain rfl := Option.some.inj H
        go_enter Try.func84, Try.ntmps84
        go_wp2_with (first | ((with_reducible refine gate_dst (N := 4) rfl ?_); (try (refine gate_guard (by rfl) ?_; dsimp only)); refine box_event ?hg (N := 4) ?hd (cs := #[.slice A0_0 l0_0.length c0_0, .slice A0_1 l0_1.length c0_1]) (t := 27) ?hr ?_; (case hd => rfl); (case hg => rfl); (case hr => first | (go_simp; done) | (go_simp; rfl)); intro gb960 hg w10 hbox hb; have n0_ := Aside0.mk (below_step (by repeat (first | (with_reducible first | exact HB.out | apply below_alloc | apply pw_below_drewN | apply below_drew1) | exact HB.out)) hb); have n1_ := Aside0.mk (hbox); have n2_ := Aside0.mk ((by rw [hg]; exact (below_size (by repeat (first | (with_reducible first | exact HB.out | apply below_alloc | apply pw_below_drewN | apply below_drew1) | exact HB.out))) : w.heap.size ≤ gb960)); have n3_ := Aside0.mk ((by rw [hg]; exact (below_size (by repeat (first | (with_reducible first | exact HB.out | apply below_alloc | apply pw_below_drewN | apply below_drew1) | exact HB.out))) : w.heap.size ≤ gb960)); clear HB; have HB := n0_; have BK960 := n1_; have GW960 := n2_; have GE960 := n3_; clear n0_ n1_ n2_ n3_; clear hb hbox hg; have hcz11_0 : w10.cell? ⟨gb960, 0, none⟩ = some (.slice A0_0 l0_0.length c0_0) := (blk_cell BK960.out 0).trans rfl; have hcz11_1 : w10.cell? ⟨gb960, 1, none⟩ = some (.slice A0_1 l0_1.length c0_1) := (blk_cell BK960.out 1).trans rfl; have hfz11_0 := blk_frozen BK960.out 0; have hfz11_1 := blk_frozen BK960.out 1) | ((with_reducible refine gate_callee (f := 63) rfl ?_); refine goesL_ (some 10) rfl rfl Try.func63 (by kernel_rfl) rfl #[.agg #[.slice A0_0 l0_0.length c0_0, .slice A0_1 l0_1.length c0_1]] rfl (by (try simp only [List.map_toArray, List.map_cons, List.map_nil]); first | done | rfl | (simp only [List.length_drop, List.length_take]; rfl)) ?_; (with_reducible refine (spec_SurfaceOk.calls k _ _ l0_0 _ _ l0_1 true _ ?side1 ?side2 ?side3 ?side4 A5.out).mono ?_); (case side1 => repeat (first | exact (Kd.C_below HR0_0.out HB.out) | (with_reducible refine Kd.C_alloc ?_ _) | (with_reducible refine Kd.C_drewN ?_ _) | (with_reducible refine Kd.C_drew ?_))); (case side2 => exact HC0_0.out); (case side3 => repeat (first | exact (Kd.C_below HR0_1.out HB.out) | (with_reducible refine Kd.C_alloc ?_ _) | (with_reducible refine Kd.C_drewN ?_ _) | (with_reducible refine Kd.C_drew ?_))); (case side4 => exact HC0_1.out); rintro e w12 ⟨rfl, hb⟩; refine ⟨_, rfl, ?_⟩; have n0_ := Aside0.mk (blk_below (g := gb960) (o := .cells #[.slice A0_0 l0_0.length c0_0, .slice A0_1 l0_1.length c0_1] 27 (0, 0)) (by (with_reducible repeat (first | refine blk_drewN ?_ _ | refine blk_drew ?_ | refine blk_alloc ?_ _)); exact BK960.out) hb); have n1_ := Aside0.mk (below_step (by repeat (first | (with_reducible first | exact HB.out | apply below_alloc | apply pw_below_drewN | apply below_drew1 | refine below_set ?_ GE960.out) | exact HB.out)) hb); clear BK960; clear HB; have BK960 := n0_; have HB := n1_; clear n0_ n1_; (try clear hb); (try clear hb2); (try clear hk); (try clear hi); have hcz13_0 : w12.cell? ⟨gb960, 0, none⟩ = some (.slice A0_0 l0_0.length c0_0) := (blk_cell BK960.out 0).trans rfl; have hcz13_1 : w12.cell? ⟨gb960, 1, none⟩ = some (.slice A0_1 l0_1.length c0_1) := (blk_cell BK960.out 1).trans rfl; have hfz13_0 := blk_frozen BK960.out 0; have hfz13_1 := blk_frozen BK960.out 1) | (go_at_call 89; (with_reducible refine (spec_SlopeOk.calls k a2 a3 t962 _ A9.out).mono ?_); rintro e w' ⟨rfl, ⟨nd, rfl⟩⟩))
        go_ret
        exact ⟨by first | rfl | (simp [errW_none, errW_some] <;> rfl) | (simp [*, errW_none, errW_some] <;> rfl), by repeat (first | (with_reducible first | exact HB.out | apply below_alloc | apply pw_below_drewN | apply below_drew1 | refine below_set ?_ GE960.out) | exact HB.out)⟩
      · rw [if_neg c8] at H
        have c8b0 : decide (a1 < (l0_0.length : Int)) = false := decide_eq_false c8
        clear c8
        obtain rfl := Option.some.inj H
        go_enter Try.func84, Try.ntmps84
        go_wp2_with (first | ((with_reducible refine gate_dst (N := 4) rfl ?_); (try (refine gate_guard (by rfl) ?_; dsimp only)); refine box_event ?hg (N := 4) ?hd (cs := #[.slice A0_0 l0_0.length c0_0, .slice A0_1 l0_1.length c0_1]) (t := 27) ?hr ?_; (case hd => rfl); (case hg => rfl); (case hr => first | (go_simp; done) | (go_simp; rfl)); intro gb960 hg w14 hbox hb; have n0_ := Aside0.mk (below_step (by repeat (first | (with_reducible first | exact HB.out | apply below_alloc | apply pw_below_drewN | apply below_drew1) | exact HB.out)) hb); have n1_ := Aside0.mk (hbox); have n2_ := Aside0.mk ((by rw [hg]; exact (below_size (by repeat (first | (with_reducible first | exact HB.out | apply below_alloc | apply pw_below_drewN | apply below_drew1) | exact HB.out))) : w.heap.size ≤ gb960)); have n3_ := Aside0.mk ((by rw [hg]; exact (below_size (by repeat (first | (with_reducible first | exact HB.out | apply below_alloc | apply pw_below_drewN | apply below_drew1) | exact HB.out))) : w.heap.size ≤ gb960)); clear HB; have HB := n0_; have BK960 := n1_; have GW960 := n2_; have GE960 := n3_; clear n0_ n1_ n2_ n3_; clear hb hbox hg; have hcz15_0 : w14.cell? ⟨gb960, 0, none⟩ = some (.slice A0_0 l0_0.length c0_0) := (blk_cell BK960.out 0).trans rfl; have hcz15_1 : w14.cell? ⟨gb960, 1, none⟩ = some (.slice A0_1 l0_1.length c0_1) := (blk_cell BK960.out 1).trans rfl; have hfz15_0 := blk_frozen BK960.out 0; have hfz15_1 := blk_frozen BK960.out 1) | ((with_reducible refine gate_callee (f := 63) rfl ?_); refine goesL_ (some 10) rfl rfl Try.func63 (by kernel_rfl) rfl #[.agg #[.slice A0_0 l0_0.length c0_0, .slice A0_1 l0_1.length c0_1]] rfl (by (try simp only [List.map_toArray, List.map_cons, List.map_nil]); first | done | rfl | (simp only [List.length_drop, List.length_take]; rfl)) ?_; (with_reducible refine (spec_SurfaceOk.calls k _ _ l0_0 _ _ l0_1 true _ ?side1 ?side2 ?side3 ?side4 A5.out).mono ?_); (case side1 => repeat (first | exact (Kd.C_below HR0_0.out HB.out) | (with_reducible refine Kd.C_alloc ?_ _) | (with_reducible refine Kd.C_drewN ?_ _) | (with_reducible refine Kd.C_drew ?_))); (case side2 => exact HC0_0.out); (case side3 => repeat (first | exact (Kd.C_below HR0_1.out HB.out) | (with_reducible refine Kd.C_alloc ?_ _) | (with_reducible refine Kd.C_drewN ?_ _) | (with_reducible refine Kd.C_drew ?_))); (case side4 => exact HC0_1.out); rintro e w16 ⟨rfl, hb⟩; refine ⟨_, rfl, ?_⟩; have n0_ := Aside0.mk (blk_below (g := gb960) (o := .cells #[.slice A0_0 l0_0.length c0_0, .slice A0_1 l0_1.length c0_1] 27 (0, 0)) (by (with_reducible repeat (first | refine blk_drewN ?_ _ | refine blk_drew ?_ | refine blk_alloc ?_ _)); exact BK960.out) hb); have n1_ := Aside0.mk (below_step (by repeat (first | (with_reducible first | exact HB.out | apply below_alloc | apply pw_below_drewN | apply below_drew1 | refine below_set ?_ GE960.out) | exact HB.out)) hb); clear BK960; clear HB; have BK960 := n0_; have HB := n1_; clear n0_ n1_; (try clear hb); (try clear hb2); (try clear hk); (try clear hi); have hcz17_0 : w16.cell? ⟨gb960, 0, none⟩ = some (.slice A0_0 l0_0.length c0_0) := (blk_cell BK960.out 0).trans rfl; have hcz17_1 : w16.cell? ⟨gb960, 1, none⟩ = some (.slice A0_1 l0_1.length c0_1) := (blk_cell BK960.out 1).trans rfl; have hfz17_0 := blk_frozen BK960.out 0; have hfz17_1 := blk_frozen BK960.out 1))
        go_ret
        exact ⟨by first | rfl | (simp [errW_none, errW_some] <;> rfl) | (simp [*, errW_none, errW_some] <;> rfl), by repeat (first | (with_reducible first | exact HB.out | apply below_alloc | apply pw_below_drewN | apply below_drew1 | refine below_set ?_ GE960.out) | exact HB.out)⟩
    · rw [if_neg c7] at H
      have c7b0 : decide (0 ≤ a1) = false := decide_eq_false c7
      clear c7
      obtain rfl := Option.some.inj H
      go_enter Try.func84, Try.ntmps84
      go_wp2_with (first | ((with_reducible refine gate_dst (N := 4) rfl ?_); (try (refine gate_guard (by rfl) ?_; dsimp only)); refine box_event ?hg (N := 4) ?hd (cs := #[.slice A0_0 l0_0.length c0_0, .slice A0_1 l0_1.length c0_1]) (t := 27) ?hr ?_; (case hd => rfl); (case hg => rfl); (case hr => first | (go_simp; done) | (go_simp; rfl)); intro gb960 hg w18 hbox hb; have n0_ := Aside0.mk (below_step (by repeat (first | (with_reducible first | exact HB.out | apply below_alloc | apply pw_below_drewN | apply below_drew1) | exact HB.out)) hb); have n1_ := Aside0.mk (hbox); have n2_ := Aside0.mk ((by rw [hg]; exact (below_size (by repeat (first | (with_reducible first | exact HB.out | apply below_alloc | apply pw_below_drewN | apply below_drew1) | exact HB.out))) : w.heap.size ≤ gb960)); have n3_ := Aside0.mk ((by rw [hg]; exact (below_size (by repeat (first | (with_reducible first | exact HB.out | apply below_alloc | apply pw_below_drewN | apply below_drew1) | exact HB.out))) : w.heap.size ≤ gb960)); clear HB; have HB := n0_; have BK960 := n1_; have GW960 := n2_; have GE960 := n3_; clear n0_ n1_ n2_ n3_; clear hb hbox hg; have hcz19_0 : w18.cell? ⟨gb960, 0, none⟩ = some (.slice A0_0 l0_0.length c0_0) := (blk_cell BK960.out 0).trans rfl; have hcz19_1 : w18.cell? ⟨gb960, 1, none⟩ = some (.slice A0_1 l0_1.length c0_1) := (blk_cell BK960.out 1).trans rfl; have hfz19_0 := blk_frozen BK960.out 0; have hfz19_1 := blk_frozen BK960.out 1) | ((with_reducible refine gate_callee (f := 63) rfl ?_); refine goesL_ (some 10) rfl rfl Try.func63 (by kernel_rfl) rfl #[.agg #[.slice A0_0 l0_0.length c0_0, .slice A0_1 l0_1.length c0_1]] rfl (by (try simp only [List.map_toArray, List.map_cons, List.map_nil]); first | done | rfl | (simp only [List.length_drop, List.length_take]; rfl)) ?_; (with_reducible refine (spec_SurfaceOk.calls k _ _ l0_0 _ _ l0_1 true _ ?side1 ?side2 ?side3 ?side4 A5.out).mono ?_); (case side1 => repeat (first | exact (Kd.C_below HR0_0.out HB.out) | (with_reducible refine Kd.C_alloc ?_ _) | (with_reducible refine Kd.C_drewN ?_ _) | (with_reducible refine Kd.C_drew ?_))); (case side2 => exact HC0_0.out); (case side3 => repeat (first | exact (Kd.C_below HR0_1.out HB.out) | (with_reducible refine Kd.C_alloc ?_ _) | (with_reducible refine Kd.C_drewN ?_ _) | (with_reducible refine Kd.C_drew ?_))); (case side4 => exact HC0_1.out); rintro e w20 ⟨rfl, hb⟩; refine ⟨_, rfl, ?_⟩; have n0_ := Aside0.mk (blk_below (g := gb960) (o := .cells #[.slice A0_0 l0_0.length c0_0, .slice A0_1 l0_1.length c0_1] 27 (0, 0)) (by (with_reducible repeat (first | refine blk_drewN ?_ _ | refine blk_drew ?_ | refine blk_alloc ?_ _)); exact BK960.out) hb); have n1_ := Aside0.mk (below_step (by repeat (first | (with_reducible first | exact HB.out | apply below_alloc | apply pw_below_drewN | apply below_drew1 | refine below_set ?_ GE960.out) | exact HB.out)) hb); clear BK960; clear HB; have BK960 := n0_; have HB := n1_; clear n0_ n1_; (try clear hb); (try clear hb2); (try clear hk); (try clear hi)))
      go_ret
      exact ⟨by first | rfl | (simp [errW_none, errW_some] <;> rfl) | (simp [*, errW_none, errW_some] <;> rfl), by repeat (first | (with_reducible first | exact HB.out | apply below_alloc | apply pw_below_drewN | apply below_drew1 | refine below_set ?_ GE960.out) | exact HB.out)⟩
  · replace c6 := Bool.eq_false_iff.mpr c6
    subst c6
    have H1 : (some false) = some r := by rw [if_neg (show ¬ (false = true) by decide)] at H; exact H
    clear H
    have H := H1
    clear H1
    obtain rfl := Option.some.inj H
    go_enter Try.func84, Try.ntmps84
    go_wp2_with (first | ((with_reducible refine gate_dst (N := 4) rfl ?_); (try (refine gate_guard (by rfl) ?_; dsimp only)); refine box_event ?hg (N := 4) ?hd (cs := #[.slice A0_0 l0_0.length c0_0, .slice A0_1 l0_1.length c0_1]) (t := 27) ?hr ?_; (case hd => rfl); (case hg => rfl); (case hr => first | (go_simp; done) | (go_simp; rfl)); intro gb960 hg w21 hbox hb; have n0_ := Aside0.mk (below_step (by repeat (first | (with_reducible first | exact HB.out | apply below_alloc | apply pw_below_drewN | apply below_drew1) | exact HB.out)) hb); have n1_ := Aside0.mk (hbox); have n2_ := Aside0.mk ((by rw [hg]; exact (below_size (by repeat (first | (with_reducible first | exact HB.out | apply below_alloc | apply pw_below_drewN | apply below_drew1) | exact HB.out))) : w.heap.size ≤ gb960)); have n3_ := Aside0.mk ((by rw [hg]; exact (below_size (by repeat (first | (with_reducible first | exact HB.out | apply below_alloc | apply pw_below_drewN | apply below_drew1) | exact HB.out))) : w.heap.size ≤ gb960)); clear HB; have HB := n0_; have BK960 := n1_; have GW960 := n2_; have GE960 := n3_; clear n0_ n1_ n2_ n3_; clear hb hbox hg; have hcz22_0 : w21.cell? ⟨gb960, 0, none⟩ = some (.slice A0_0 l0_0.length c0_0) := (blk_cell BK960.out 0).trans rfl; have hcz22_1 : w21.cell? ⟨gb960, 1, none⟩ = some (.slice A0_1 l0_1.length c0_1) := (blk_cell BK960.out 1).trans rfl; have hfz22_0 := blk_frozen BK960.out 0; have hfz22_1 := blk_frozen BK960.out 1) | ((with_reducible refine gate_callee (f := 63) rfl ?_); refine goesL_ (some 10) rfl rfl Try.func63 (by kernel_rfl) rfl #[.agg #[.slice A0_0 l0_0.length c0_0, .slice A0_1 l0_1.length c0_1]] rfl (by (try simp only [List.map_toArray, List.map_cons, List.map_nil]); first | done | rfl | (simp only [List.length_drop, List.length_take]; rfl)) ?_; (with_reducible refine (spec_SurfaceOk.calls k _ _ l0_0 _ _ l0_1 false _ ?side1 ?side2 ?side3 ?side4 A5.out).mono ?_); (case side1 => repeat (first | exact (Kd.C_below HR0_0.out HB.out) | (with_reducible refine Kd.C_alloc ?_ _) | (with_reducible refine Kd.C_drewN ?_ _) | (with_reducible refine Kd.C_drew ?_))); (case side2 => exact HC0_0.out); (case side3 => repeat (first | exact (Kd.C_below HR0_1.out HB.out) | (with_reducible refine Kd.C_alloc ?_ _) | (with_reducible refine Kd.C_drewN ?_ _) | (with_reducible refine Kd.C_drew ?_))); (case side4 => exact HC0_1.out); rintro e w23 ⟨rfl, hb⟩; refine ⟨_, rfl, ?_⟩; have n0_ := Aside0.mk (blk_below (g := gb960) (o := .cells #[.slice A0_0 l0_0.length c0_0, .slice A0_1 l0_1.length c0_1] 27 (0, 0)) (by (with_reducible repeat (first | refine blk_drewN ?_ _ | refine blk_drew ?_ | refine blk_alloc ?_ _)); exact BK960.out) hb); have n1_ := Aside0.mk (below_step (by repeat (first | (with_reducible first | exact HB.out | apply below_alloc | apply pw_below_drewN | apply below_drew1 | refine below_set ?_ GE960.out) | exact HB.out)) hb); clear BK960; clear HB; have BK960 := n0_; have HB := n1_; clear n0_ n1_; (try clear hb); (try clear hb2); (try clear hk); (try clear hi)))
    go_ret
    exact ⟨by first | rfl | (simp [errW_none, errW_some] <;> rfl) | (simp [*, errW_none, errW_some] <;> rfl), by repeat (first | (with_reducible first | exact HB.out | apply below_alloc | apply pw_below_drewN | apply below_drew1 | refine below_set ?_ GE960.out) | exact HB.out)⟩
end Go.Proofs.Ytbdnellgioimbaa.A
end
section
namespace Go.Proofs.Ytbdnellgioimbaa.A
open Go.RowKit Go.Proofs.YtbdnellgioimbaaW.PrintWords Go.Proofs.YtbdnellgioimbaaW.PrintLast Go.Proofs.YtbdnellgioimbaaW.PrintMore
attribute [local go_sem] max2_int min2_int max_two min_two max_three min_three max_four min_four
set_option linter.unusedVariables false
set_option linter.unusedSimpArgs false
def spec_PathRounds.l0 : Nat → Int → List Int → Int → Int → Option (Int)
  | 0, _, _, _, _ => none
  | k + 1, x1, x9, x10, x11 => if x11 = x1 then (some x10) else (if 0 ≤ x11 then (if x11 < (x9.length : Int) then (spec_PathRounds.l0 k x1 x9 (wrap64 (x10 + 1)) (rd x9 x11)) else (none)) else (none))
def spec_PathRounds.f (k : Nat) (l0_0 : List Int) (l0_1 : List Int) (a1 : Int) (a2 : Int) (a3 : Int) : Option (Int) := (spec_l13Ok.f k l0_0 l0_1 a1 a2 a3).bind fun t974 => (if t974 = true then ((spec_SlopeWord.f k a2 a3).bind fun t975 => ((spec_l09Path.f k l0_0 l0_1 t975).bind fun t976 => (if 0 ≤ a1 then (if a1 < (t976.length : Int) then (spec_PathRounds.l0 k a1 t976 1 (rd t976 a1)) else (none)) else (none)))) else (some 0))
theorem spec_PathRounds.mono_l : ∀ k, (∀ y0 y1 y2 y3, LeO (spec_PathRounds.l0 k y0 y1 y2 y3) (spec_PathRounds.l0 (k + 1) y0 y1 y2 y3))
  | 0 => fun _ _ _ _ r h => by simp [spec_PathRounds.l0] at h
  | k + 1 => by
    have ih0 := spec_PathRounds.mono_l k
    · intro y0 y1 y2 y3
      unfold spec_PathRounds.l0
      repeat' first
      | (with_reducible exact ih0 _ _ _ _)
      | (with_reducible exact spec_SlopeWord.mono _ _ _)
      | (with_reducible exact spec_l09Path.mono _ _ _ _)
      | (with_reducible exact spec_l13Ok.mono _ _ _ _ _ _)
      | (with_reducible exact LeO.refl _)
      | (with_reducible exact LeO.none _)
      | (with_reducible refine LeO.ite ?_ ?_)
      | (with_reducible refine LeO.bind ?_ (fun _ => ?_))
      | exact ih0 _ _ _ _
      | exact spec_SlopeWord.mono _ _ _
      | exact spec_l09Path.mono _ _ _ _
      | exact spec_l13Ok.mono _ _ _ _ _ _
      | exact LeO.none _
      | refine LeO.ite ?_ ?_
      | refine LeO.bind ?_ (fun _ => ?_)
theorem spec_PathRounds.mono : ∀ a0 a1 a2 a3 a4 k, LeO (spec_PathRounds.f k a0 a1 a2 a3 a4) (spec_PathRounds.f (k + 1) a0 a1 a2 a3 a4) := by
  intro a0 a1 a2 a3 a4 k
  have ih0 := spec_PathRounds.mono_l k
  unfold spec_PathRounds.f
  repeat' first
      | (with_reducible exact ih0 _ _ _ _)
      | (with_reducible exact spec_SlopeWord.mono _ _ _)
      | (with_reducible exact spec_l09Path.mono _ _ _ _)
      | (with_reducible exact spec_l13Ok.mono _ _ _ _ _ _)
      | (with_reducible exact LeO.refl _)
      | (with_reducible exact LeO.none _)
      | (with_reducible refine LeO.ite ?_ ?_)
      | (with_reducible refine LeO.bind ?_ (fun _ => ?_))
      | exact ih0 _ _ _ _
      | exact spec_SlopeWord.mono _ _ _
      | exact spec_l09Path.mono _ _ _ _
      | exact spec_l13Ok.mono _ _ _ _ _ _
      | exact LeO.none _
      | refine LeO.ite ?_ ?_
      | refine LeO.bind ?_ (fun _ => ?_)
set_option maxHeartbeats 8000000 in
set_option maxRecDepth 100000 in
theorem spec_PathRounds.calls (k : Nat) (A0_0 : Option Addr) (c0_0 : Nat) (l0_0 : List Int) (A0_1 : Option Addr) (c0_1 : Nat) (l0_1 : List Int) (a1 : Int) (a2 : Int) (a3 : Int) (r : Int) (w : World) (hr0_0 : Kd.C (Kd.int .i64) w A0_0 l0_0.length l0_0) (hc0_0 : l0_0.length ≤ c0_0) (hr0_1 : Kd.C (Kd.int .i64) w A0_1 l0_1.length l0_1) (hc0_1 : l0_1.length ≤ c0_1) (h : spec_PathRounds.f k l0_0 l0_1 a1 a2 a3 = some r) :
    Calls Try.prog 81 #[.agg #[.slice A0_0 l0_0.length c0_0, .slice A0_1 l0_1.length c0_1], .int .i64 a1, .int .i64 a2, .int .i64 a3] w fun e w' => e = .returned (.int .i64 r) ∧ Below w.heap.size w w' := by
  have hu27 := Try.underlying27
  have HR0_0 := Aside0.mk hr0_0
  have HC0_0 := Aside0.mk hc0_0
  clear hr0_0 hc0_0
  have HR0_1 := Aside0.mk hr0_1
  have HC0_1 := Aside0.mk hc0_1
  clear hr0_1 hc0_1
  have HB := Aside0.mk (Below.refl w.heap.size w)
  have H : ((spec_l13Ok.f k l0_0 l0_1 a1 a2 a3).bind fun t974 => (if t974 = true then ((spec_SlopeWord.f k a2 a3).bind fun t975 => ((spec_l09Path.f k l0_0 l0_1 t975).bind fun t976 => (if 0 ≤ a1 then (if a1 < (t976.length : Int) then (spec_PathRounds.l0 k a1 t976 1 (rd t976 a1)) else (none)) else (none)))) else (some 0))) = some r := h
  clear h
  replace H := Option.bind_eq_some_iff.mp H
  obtain ⟨t974, A50, H⟩ := H
  replace H : (if t974 = true then ((spec_SlopeWord.f k a2 a3).bind fun t975 => ((spec_l09Path.f k l0_0 l0_1 t975).bind fun t976 => (if 0 ≤ a1 then (if a1 < (t976.length : Int) then (spec_PathRounds.l0 k a1 t976 1 (rd t976 a1)) else (none)) else (none)))) else (some 0)) = some r := H
  have A5 := Aside0.mk A50
  clear A50
  by_cases c6 : t974 = true
  · subst c6
    have H1 : ((spec_SlopeWord.f k a2 a3).bind fun t975 => ((spec_l09Path.f k l0_0 l0_1 t975).bind fun t976 => (if 0 ≤ a1 then (if a1 < (t976.length : Int) then (spec_PathRounds.l0 k a1 t976 1 (rd t976 a1)) else (none)) else (none)))) = some r := by rw [if_pos rfl] at H; exact H
    clear H
    have H := H1
    clear H1
    replace H := Option.bind_eq_some_iff.mp H
    obtain ⟨t975, A70, H⟩ := H
    replace H : ((spec_l09Path.f k l0_0 l0_1 t975).bind fun t976 => (if 0 ≤ a1 then (if a1 < (t976.length : Int) then (spec_PathRounds.l0 k a1 t976 1 (rd t976 a1)) else (none)) else (none))) = some r := H
    have A7 := Aside0.mk A70
    clear A70
    replace H := Option.bind_eq_some_iff.mp H
    obtain ⟨t976, A80, H⟩ := H
    replace H : (if 0 ≤ a1 then (if a1 < (t976.length : Int) then (spec_PathRounds.l0 k a1 t976 1 (rd t976 a1)) else (none)) else (none)) = some r := H
    have A8 := Aside0.mk A80
    clear A80
    by_cases c9 : 0 ≤ a1
    · rw [if_pos c9] at H
      have c9b0 : decide (0 ≤ a1) = true := decide_eq_true c9
      clear c9
      by_cases c10 : a1 < (t976.length : Int)
      · rw [if_pos c10] at H
        have c10b0 : decide (a1 < (t976.length : Int)) = true := decide_eq_true c10
        clear c10
        have H' := Aside0.mk H
        clear H
        go_enter Try.func81, Try.ntmps81
        try go_wp2_with (first | ((with_reducible refine gate_dst (N := 4) rfl ?_); refine box_event ?hg (N := 4) ?hd (cs := #[.slice A0_0 l0_0.length c0_0, .slice A0_1 l0_1.length c0_1]) (t := 27) ?hr ?_; (case hd => rfl); (case hg => rfl); (case hr => first | (go_simp; done) | (go_simp; rfl)); intro gb973 hg w11 hbox hb; have n0_ := Aside0.mk (below_step (by repeat (first | (with_reducible first | exact HB.out | apply below_alloc | apply pw_below_drewN | apply below_drew1) | exact HB.out)) hb); have n1_ := Aside0.mk (hbox); have n2_ := Aside0.mk ((by rw [hg]; exact (below_size (by repeat (first | (with_reducible first | exact HB.out | apply below_alloc | apply pw_below_drewN | apply below_drew1) | exact HB.out))) : w.heap.size ≤ gb973)); have n3_ := Aside0.mk ((by rw [hg]; exact (below_size (by repeat (first | (with_reducible first | exact HB.out | apply below_alloc | apply pw_below_drewN | apply below_drew1) | exact HB.out))) : w.heap.size ≤ gb973)); clear HB; have HB := n0_; have BK973 := n1_; have GW973 := n2_; have GE973 := n3_; clear n0_ n1_ n2_ n3_; clear hb hbox hg; have hcz12_0 : w11.cell? ⟨gb973, 0, none⟩ = some (.slice A0_0 l0_0.length c0_0) := (blk_cell BK973.out 0).trans rfl; have hcz12_1 : w11.cell? ⟨gb973, 1, none⟩ = some (.slice A0_1 l0_1.length c0_1) := (blk_cell BK973.out 1).trans rfl; have hfz12_0 := blk_frozen BK973.out 0; have hfz12_1 := blk_frozen BK973.out 1) | ((with_reducible refine gate_callee (f := 84) rfl ?_); refine goesL_ (some 16) rfl rfl Try.func84 (by kernel_rfl) rfl #[.agg #[.slice A0_0 l0_0.length c0_0, .slice A0_1 l0_1.length c0_1], .int .i64 a1, .int .i64 a2, .int .i64 a3] rfl (by (try simp only [List.map_toArray, List.map_cons, List.map_nil]); first | done | rfl | (simp only [List.length_drop, List.length_take]; rfl)) ?_; (with_reducible refine (spec_l13Ok.calls k _ _ l0_0 _ _ l0_1 a1 a2 a3 true _ ?side1 ?side2 ?side3 ?side4 A5.out).mono ?_); (case side1 => repeat (first | exact (Kd.C_below HR0_0.out HB.out) | (with_reducible refine Kd.C_alloc ?_ _) | (with_reducible refine Kd.C_drewN ?_ _) | (with_reducible refine Kd.C_drew ?_))); (case side2 => exact HC0_0.out); (case side3 => repeat (first | exact (Kd.C_below HR0_1.out HB.out) | (with_reducible refine Kd.C_alloc ?_ _) | (with_reducible refine Kd.C_drewN ?_ _) | (with_reducible refine Kd.C_drew ?_))); (case side4 => exact HC0_1.out); rintro e w13 ⟨rfl, hb⟩; refine ⟨_, rfl, ?_⟩; have n0_ := Aside0.mk (blk_below (g := gb973) (o := .cells #[.slice A0_0 l0_0.length c0_0, .slice A0_1 l0_1.length c0_1] 27 (0, 0)) (by (with_reducible repeat (first | refine blk_drewN ?_ _ | refine blk_drew ?_ | refine blk_alloc ?_ _)); exact BK973.out) hb); have n1_ := Aside0.mk (below_step (by repeat (first | (with_reducible first | exact HB.out | apply below_alloc | apply pw_below_drewN | apply below_drew1 | refine below_set ?_ GE973.out) | exact HB.out)) hb); clear BK973; clear HB; have BK973 := n0_; have HB := n1_; clear n0_ n1_; (try clear hb); (try clear hb2); (try clear hk); (try clear hi)))
        have n0_ := Aside0.mk (blk_drew BK973.out)
        have n1_ := Aside0.mk (below_drew1 HB.out)
        clear BK973
        clear HB
        have BK973 := n0_
        have HB := n1_
        clear n0_ n1_
        refine start_ (n := 6) (S := fun w' => w'.cell? ⟨gb973, 0, none⟩ = some (.slice A0_0 l0_0.length c0_0) ∧ w'.cell? ⟨gb973, 1, none⟩ = some (.slice A0_1 l0_1.length c0_1)) (ds := []) #[false, false, false, false, false, false] (by kernel_rfl) rfl rfl ⟨(blk_cell BK973.out 0).trans rfl, (blk_cell BK973.out 1).trans rfl⟩ (fun hHeld => ?_)
        generalize w13.drew = w14 at BK973 HB hHeld ⊢
        refine pure_ (i := 1) (N := some 19) (v := ?_) (a' := ?_) #[false, true, false, false, false, false] rfl rfl (by kernel_rfl) (fun _ _ _ h => h) (Or.inl ⟨by rfl, ?_⟩) ?_ ?_
        rotate_left
        · intro w'
          go_simp
          with_reducible rfl
        rotate_left
        · simp only [Act.put, List.setIfInBounds_toArray, List.set_cons_zero, List.set_cons_succ, i64_w, i32_w]
          rfl
        refine pure_ (i := 2) (N := some 20) (v := ?_) (a' := ?_) #[false, true, true, false, false, false] rfl rfl (by kernel_rfl) (fun _ _ _ h => h) (Or.inl ⟨by rfl, ?_⟩) ?_ ?_
        rotate_left
        · intro w'
          go_simp
          with_reducible rfl
        rotate_left
        · simp only [Act.put, List.setIfInBounds_toArray, List.set_cons_zero, List.set_cons_succ, i64_w, i32_w]
          rfl
        refine take_ (i := 0) (N := some 18) (v := ?_) (a' := ?_) #[true, true, true, false, false, false] rfl rfl (by kernel_rfl) (fun _ _ _ h => h) (Or.inl ⟨by rfl, ?_⟩) hHeld ?_ ?_
        rotate_left
        · rintro w' ⟨s0, s1⟩
          go_simp
          with_reducible rfl
        rotate_left
        · simp only [Act.put, List.setIfInBounds_toArray, List.set_cons_zero, List.set_cons_succ, i64_w, i32_w]
          rfl
        refine one_ (i := 3) (N := some 21) #[true, true, true, true, false, false] rfl rfl (by kernel_rfl) (by decide) (fun K hK => ?_)
        refine goes_ Try.func80 (by kernel_rfl) rfl #[.int .i64 a2, .int .i64 a3] (by rfl) rfl rfl (by (try simp only [List.map_toArray, List.map_cons, List.map_nil]); first | done | rfl | (simp only [List.length_drop, List.length_take]; rfl)) ?_
        with_reducible refine (spec_SlopeWord.calls k a2 a3 t975 _ A7.out).mono ?_
        rintro e w' ⟨rfl, ⟨nd, rfl⟩⟩
        refine ⟨_, rfl, ?_⟩
        refine hK.out _ _ ⟨(blk_cell BK973.out 0).trans rfl, (blk_cell BK973.out 1).trans rfl⟩ (fun hHeld => ?_)
        clear hK K
        refine norm_ (a' := ?_) ?_ ?_
        rotate_left
        · show Act.put _ (some 21) _ = _
          simp only [Act.put, List.setIfInBounds_toArray, List.set_cons_zero, List.set_cons_succ, i64_w, i32_w]
          rfl
        refine one_ (i := 4) (N := some 22) #[true, true, true, true, true, false] rfl rfl (by kernel_rfl) (by decide) (fun K hK => ?_)
        refine goes_ Try.func121 (by kernel_rfl) rfl #[.agg #[.slice A0_0 l0_0.length c0_0, .slice A0_1 l0_1.length c0_1], .string t975] (by rfl) rfl rfl (by (try simp only [List.map_toArray, List.map_cons, List.map_nil]); first | done | rfl | (simp only [List.length_drop, List.length_take]; rfl)) ?_
        with_reducible refine (spec_l09Path.calls k _ _ l0_0 _ _ l0_1 t975 t976 _ ?side1 ?side2 ?side3 ?side4 A8.out).mono ?_
        (case side1 => repeat (first | exact (Kd.C_below HR0_0.out (by repeat (first | (with_reducible first | exact HB.out | apply below_alloc | apply pw_below_drewN | apply below_drew1 | refine below_set ?_ GE973.out) | exact HB.out))) | (with_reducible refine Kd.C_alloc ?_ _) | (with_reducible refine Kd.C_drewN ?_ _) | (with_reducible refine Kd.C_drew ?_)))
        (case side2 => exact HC0_0.out)
        (case side3 => repeat (first | exact (Kd.C_below HR0_1.out (by repeat (first | (with_reducible first | exact HB.out | apply below_alloc | apply pw_below_drewN | apply below_drew1 | refine below_set ?_ GE973.out) | exact HB.out))) | (with_reducible refine Kd.C_alloc ?_ _) | (with_reducible refine Kd.C_drewN ?_ _) | (with_reducible refine Kd.C_drew ?_)))
        (case side4 => exact HC0_1.out)
        rintro e w15 ⟨v977, rfl, ho0, hb⟩
        refine ⟨_, rfl, ?_⟩
        have n0_ := Aside0.mk (Kd.R_lower ho0 (below_size (by repeat (first | (with_reducible first | exact HB.out | apply below_alloc | apply pw_below_drewN | apply below_drew1 | refine below_set ?_ GE973.out) | exact HB.out))))
        have n1_ := Aside0.mk (blk_below (g := gb973) (o := .cells #[.slice A0_0 l0_0.length c0_0, .slice A0_1 l0_1.length c0_1] 27 (0, 0)) (by (with_reducible repeat (first | refine blk_drewN ?_ _ | refine blk_drew ?_ | refine blk_alloc ?_ _)); exact BK973.out) hb)
        have n2_ := Aside0.mk (below_step (by repeat (first | (with_reducible first | exact HB.out | apply below_alloc | apply pw_below_drewN | apply below_drew1 | refine below_set ?_ GE973.out) | exact HB.out)) hb)
        clear BK973
        clear HB
        have HO978 := n0_
        have BK973 := n1_
        have HB := n2_
        clear n0_ n1_ n2_
        (try clear hb)
        (try clear hb2)
        (try clear hk)
        (try clear hi)
        (try clear ho0)
        refine hK.out _ _ ⟨(blk_cell BK973.out 0).trans rfl, (blk_cell BK973.out 1).trans rfl⟩ (fun hHeld => ?_)
        clear hK K
        refine norm_ (a' := ?_) ?_ ?_
        rotate_left
        · show Act.put _ (some 22) _ = _
          simp only [Act.put, List.setIfInBounds_toArray, List.set_cons_zero, List.set_cons_succ, i64_w, i32_w]
          rfl
        refine pure_ (i := 5) (N := some 9) (v := ?_) (a' := ?_) #[true, true, true, true, true, true] rfl rfl (by kernel_rfl) (fun _ _ _ h => h) (Or.inl ⟨by rfl, ?_⟩) ?_ ?_
        rotate_left
        · intro w'
          go_simp
          with_reducible rfl
        rotate_left
        · simp only [Act.put, List.setIfInBounds_toArray, List.set_cons_zero, List.set_cons_succ, i64_w, i32_w]
          rfl
        refine done_ (by kernel_rfl) ?_
        obtain ⟨Ao16, co16, eo16⟩ := Kd.R_slice HO978.out
        subst eo16
        have p979 : 0 ≤ (a1 : Int) := of_decide_eq_true (by first | (with_reducible assumption) | assumption)
        have q979 : a1 < (t976.length : Int) := of_decide_eq_true (by first | (with_reducible assumption) | assumption)
        obtain ⟨ad979, e979, hx979_0⟩ := Kd.at_int (Kd.R_reads' HO978.out).2.2 a1 p979 q979
        cases e979
        replace p979 := eq_true p979
        replace q979 := eq_true q979
        try go_wp2
        go_loopg [10, 11] k (fun kq v10 v11 w' => ∃ (x10_1 : Int) (x11_1 : Int), v10 = .int .i64 x10_1 ∧ v11 = .int .i64 x11_1 ∧ Aside0 (spec_PathRounds.l0 kq a1 t976 x10_1 x11_1 = some r) ∧ Aside0 (kq ≤ k) ∧ Aside0 (Kd.R (Kd.int .i64) 3 w' w.heap.size (fun _ => True) (.slice (some ad979) t976.length co16) t976) ∧ Aside0 (w'.heap[gb973]? = some (.cells #[(.slice A0_0 l0_0.length c0_0), (.slice A0_1 l0_1.length c0_1)] 27 (0, 0))) ∧ Aside0 (Below w.heap.size w w'))
        case atStart => exact ⟨(1), (rd t976 a1), (by first | rfl | (simp; done) | (simp [*]; done)), (by first | rfl | (simp; done) | (simp [*]; done)), H', ⟨Nat.le_refl _⟩, ⟨by (with_reducible repeat (first | apply Kd.R_alloc | apply Kd.R_drewN | apply Kd.R_drew)); exact HO978.out⟩, ⟨by (with_reducible repeat (first | refine blk_drewN ?_ _ | refine blk_drew ?_ | refine blk_alloc ?_ _)); exact BK973.out⟩, ⟨by repeat (first | (with_reducible first | exact HB.out | apply below_alloc | apply pw_below_drewN | apply below_drew1 | refine below_set ?_ GE973.out) | exact HB.out)⟩⟩
        case round =>
          clear H'
          try clear c1
          try clear p2
          try clear c6
          try clear c8
          try clear c9
          try clear c9b0
          try clear p9
          try clear q9
          try clear hx9
          try clear c10
          try clear c10b0
          try clear c12
          try clear hcz12_0
          try clear hcz12_1
          try clear hfz12_0
          try clear hfz12_1
          try clear hx979_0
          try clear p979
          try clear q979
          obtain ⟨x10_1, x11_1, rfl, rfl, HA, HK1, HO_9, BK973, HB⟩ := hrel
          cases gk with
          | zero => exact absurd HA.out (by simp [spec_PathRounds.l0])
          | succ k1 =>
            have H := HA.out
            clear HA
            simp only [spec_PathRounds.l0] at H
            by_cases c17 : x11_1 = a1
            · rw [if_pos c17] at H
              have c17b0 : (x11_1 == a1) = true := beq_iff_eq.mpr c17
              have c17b1 : (x11_1 != a1) = false := bne_eq_false_iff_eq.mpr c17
              clear c17
              obtain rfl := Option.some.inj H
              go_wp2
              go_ret
              exact ⟨by first | rfl | (simp [errW_none, errW_some] <;> rfl) | (simp [*, errW_none, errW_some] <;> rfl), by repeat (first | (with_reducible first | exact HB.out | apply below_alloc | apply pw_below_drewN | apply below_drew1 | refine below_set ?_ GE973.out) | exact HB.out)⟩
            · rw [if_neg c17] at H
              have c17b0 : (x11_1 == a1) = false := beq_eq_false_iff_ne.mpr c17
              have c17b1 : (x11_1 != a1) = true := bne_iff_ne.mpr c17
              by_cases c18 : 0 ≤ x11_1
              · rw [if_pos c18] at H
                have c18b0 : decide (0 ≤ x11_1) = true := decide_eq_true c18
                clear c18
                by_cases c19 : x11_1 < (t976.length : Int)
                · rw [if_pos c19] at H
                  have c19b0 : decide (x11_1 < (t976.length : Int)) = true := decide_eq_true c19
                  clear c19
                  have H' := Aside0.mk H
                  clear H
                  have p980 : 0 ≤ (x11_1 : Int) := of_decide_eq_true (by first | (with_reducible assumption) | assumption)
                  have q980 : x11_1 < (t976.length : Int) := of_decide_eq_true (by first | (with_reducible assumption) | assumption)
                  obtain ⟨ad980, e980, hx980_0⟩ := Kd.at_int (Kd.R_reads' HO_9.out).2.2 x11_1 p980 q980
                  obtain rfl : ad979 = ad980 := (by injection e980)
                  replace p980 := eq_true p980
                  replace q980 := eq_true q980
                  go_wp2
                  go_roundg k1
                  case measure => have := HK1.out; omega
                  case rel => exact ⟨(wrap64 (x10_1 + 1)), (rd t976 x11_1), (by first | rfl | (simp; done) | (simp [*]; done)), (by first | rfl | (simp; done) | (simp [*]; done)), H', ⟨by have := HK1.out; omega⟩, ⟨by (with_reducible repeat (first | apply Kd.R_alloc | apply Kd.R_drewN | apply Kd.R_drew)); exact HO_9.out⟩, ⟨by (with_reducible repeat (first | refine blk_drewN ?_ _ | refine blk_drew ?_ | refine blk_alloc ?_ _)); exact BK973.out⟩, ⟨by repeat (first | (with_reducible first | exact HB.out | apply below_alloc | apply pw_below_drewN | apply below_drew1 | refine below_set ?_ GE973.out) | exact HB.out)⟩⟩
                · rw [if_neg c19] at H
                  exact absurd H (by simp)
              · rw [if_neg c18] at H
                exact absurd H (by simp)
      · rw [if_neg c10] at H
        exact absurd H (by simp)
    · rw [if_neg c9] at H
      exact absurd H (by simp)
  · replace c6 := Bool.eq_false_iff.mpr c6
    subst c6
    have H1 : (some 0) = some r := by rw [if_neg (show ¬ (false = true) by decide)] at H; exact H
    clear H
    have H := H1
    clear H1
    obtain rfl := Option.some.inj H
    go_enter Try.func81, Try.ntmps81
    go_wp2_with (first | ((with_reducible refine gate_dst (N := 4) rfl ?_); refine box_event ?hg (N := 4) ?hd (cs := #[.slice A0_0 l0_0.length c0_0, .slice A0_1 l0_1.length c0_1]) (t := 27) ?hr ?_; (case hd => rfl); (case hg => rfl); (case hr => first | (go_simp; done) | (go_simp; rfl)); intro gb973 hg w20 hbox hb; have n0_ := Aside0.mk (below_step (by repeat (first | (with_reducible first | exact HB.out | apply below_alloc | apply pw_below_drewN | apply below_drew1) | exact HB.out)) hb); have n1_ := Aside0.mk (hbox); have n2_ := Aside0.mk ((by rw [hg]; exact (below_size (by repeat (first | (with_reducible first | exact HB.out | apply below_alloc | apply pw_below_drewN | apply below_drew1) | exact HB.out))) : w.heap.size ≤ gb973)); have n3_ := Aside0.mk ((by rw [hg]; exact (below_size (by repeat (first | (with_reducible first | exact HB.out | apply below_alloc | apply pw_below_drewN | apply below_drew1) | exact HB.out))) : w.heap.size ≤ gb973)); clear HB; have HB := n0_; have BK973 := n1_; have GW973 := n2_; have GE973 := n3_; clear n0_ n1_ n2_ n3_; clear hb hbox hg; have hcz21_0 : w20.cell? ⟨gb973, 0, none⟩ = some (.slice A0_0 l0_0.length c0_0) := (blk_cell BK973.out 0).trans rfl; have hcz21_1 : w20.cell? ⟨gb973, 1, none⟩ = some (.slice A0_1 l0_1.length c0_1) := (blk_cell BK973.out 1).trans rfl; have hfz21_0 := blk_frozen BK973.out 0; have hfz21_1 := blk_frozen BK973.out 1) | ((with_reducible refine gate_callee (f := 84) rfl ?_); refine goesL_ (some 16) rfl rfl Try.func84 (by kernel_rfl) rfl #[.agg #[.slice A0_0 l0_0.length c0_0, .slice A0_1 l0_1.length c0_1], .int .i64 a1, .int .i64 a2, .int .i64 a3] rfl (by (try simp only [List.map_toArray, List.map_cons, List.map_nil]); first | done | rfl | (simp only [List.length_drop, List.length_take]; rfl)) ?_; (with_reducible refine (spec_l13Ok.calls k _ _ l0_0 _ _ l0_1 a1 a2 a3 false _ ?side1 ?side2 ?side3 ?side4 A5.out).mono ?_); (case side1 => repeat (first | exact (Kd.C_below HR0_0.out HB.out) | (with_reducible refine Kd.C_alloc ?_ _) | (with_reducible refine Kd.C_drewN ?_ _) | (with_reducible refine Kd.C_drew ?_))); (case side2 => exact HC0_0.out); (case side3 => repeat (first | exact (Kd.C_below HR0_1.out HB.out) | (with_reducible refine Kd.C_alloc ?_ _) | (with_reducible refine Kd.C_drewN ?_ _) | (with_reducible refine Kd.C_drew ?_))); (case side4 => exact HC0_1.out); rintro e w22 ⟨rfl, hb⟩; refine ⟨_, rfl, ?_⟩; have n0_ := Aside0.mk (blk_below (g := gb973) (o := .cells #[.slice A0_0 l0_0.length c0_0, .slice A0_1 l0_1.length c0_1] 27 (0, 0)) (by (with_reducible repeat (first | refine blk_drewN ?_ _ | refine blk_drew ?_ | refine blk_alloc ?_ _)); exact BK973.out) hb); have n1_ := Aside0.mk (below_step (by repeat (first | (with_reducible first | exact HB.out | apply below_alloc | apply pw_below_drewN | apply below_drew1 | refine below_set ?_ GE973.out) | exact HB.out)) hb); clear BK973; clear HB; have BK973 := n0_; have HB := n1_; clear n0_ n1_; (try clear hb); (try clear hb2); (try clear hk); (try clear hi)))
    go_ret
    exact ⟨by first | rfl | (simp [errW_none, errW_some] <;> rfl) | (simp [*, errW_none, errW_some] <;> rfl), by repeat (first | (with_reducible first | exact HB.out | apply below_alloc | apply pw_below_drewN | apply below_drew1 | refine below_set ?_ GE973.out) | exact HB.out)⟩
end Go.Proofs.Ytbdnellgioimbaa.A
end
section
/- Rounds of paths: the program and the reference answer alike. No conditions. -/
namespace Go.Proofs.Ytbdnellgioimbaa.M
set_option linter.unusedVariables false
set_option linter.unusedSimpArgs false
open Go.RowKit Go.Proofs.YtbdnellgioimbaaW.PrintWords Go.Proofs.YtbdnellgioimbaaW.PrintLast Go.Proofs.YtbdnellgioimbaaW.PrintMore Go.Proofs.Ytbdnellgioimbaa.A
theorem rounds_both {p : List Nat} (hp : IsP p) (h24 : p.length ≤ 24) {s : Nat} (hs : s < p.length) : ∃ r : Nat, (1 ≤ r ∧ r ≤ p.length ∧ itr p r s = s) ∧ Ev (fun k => spec_PathRounds.l0 k (s : Int) (I p) 1 ((g p s : Nat) : Int)) (r : Int) ∧ Ev (fun k => impl_PathRounds.l0 k (s : Int) (I p) 1 ((g p s : Nat) : Int)) (r : Int) := by
  obtain ⟨m, m1, m2, m3⟩ := period hp hs
  have H : ∀ d c : Nat, c + d = m → 1 ≤ c → ∃ r : Nat, (1 ≤ r ∧ r ≤ p.length ∧ itr p r s = s) ∧ Ev (fun k => spec_PathRounds.l0 k (s : Int) (I p) (c : Int) ((itr p c s : Nat) : Int)) (r : Int) ∧ Ev (fun k => impl_PathRounds.l0 k (s : Int) (I p) (c : Int) ((itr p c s : Nat) : Int)) (r : Int) := by
    intro d
    induction d with
    | zero =>
      intro c h hc
      obtain rfl : c = m := by omega
      refine ⟨c, ⟨hc, by omega, m3⟩, ev_succ ?_, ev_succ ?_⟩
      · simp only [spec_PathRounds.l0, m3, if_true]
        exact Ev.now _
      · simp only [impl_PathRounds.l0, m3, if_true]
        exact Ev.now _
    | succ d ih =>
      intro c h hc
      by_cases e : itr p c s = s
      · refine ⟨c, ⟨hc, by omega, e⟩, ev_succ ?_, ev_succ ?_⟩
        · simp only [spec_PathRounds.l0, e, if_true]
          exact Ev.now _
        · simp only [impl_PathRounds.l0, e, if_true]
          exact Ev.now _
      · have e' : ¬ (((itr p c s : Nat) : Int) = (s : Int)) := by omega
        obtain ⟨r, i0, i1, i2⟩ := ih (c + 1) (by omega) (by omega)
        have hl := itr_lt hp c hs
        have h1 : (0 : Int) ≤ ((itr p c s : Nat) : Int) := by omega
        have h2 : ((itr p c s : Nat) : Int) < (p.length : Int) := by omega
        have h3 := w64s c (by omega)
        refine ⟨r, i0, ev_succ ?_, ev_succ ?_⟩
        · simp only [spec_PathRounds.l0, e', h1, h2, h3, rdI, I_len', if_true, if_false]
          exact i1
        · simp only [impl_PathRounds.l0, e', h1, h2, h3, rdI, I_len', if_true, if_false]
          exact i2
  exact H (m - 1) 1 (by omega) (by omega)
def okP (r u : List Int) (s p q : Int) : Prop := surfB r u = true ∧ slopeOkI p q = true ∧ 0 ≤ s ∧ s < (r.length : Int)
theorem pathRounds_full2 (r u : List Int) (s p q : Int) : ∃ n : Nat, ((n ≤ 24 ∧ n ≤ r.length) ∧ (okP r u s p q → 1 ≤ n ∧ itr (pathL (N r) (N u) (slopeWordI p q)) n s.toNat = s.toNat) ∧ (¬ okP r u s p q → n = 0)) ∧ Ev (fun k => spec_PathRounds.f k r u s p q) (n : Int) ∧ Ev (fun k => impl_PathRounds.f k r u s p q) (n : Int) := by
  unfold spec_PathRounds.f impl_PathRounds.f spec_l13Ok.f
  have hp := impl_pathPerm r u p q
  have j0 : ∀ (x : Int) (l : List Int), Ev (fun k => impl_PathRounds.j0 k x l true) 0 := fun x l => by
    refine ev_succ ?_
    simp only [impl_PathRounds.j0, if_true]
    exact Ev.now _
  have no : ∀ (b : Bool), b = false → Ev (fun k => if b = true then ((spec_SlopeWord.f k p q).bind fun t464 => ((spec_l09Path.f k r u t464).bind fun t465 => (if 0 ≤ s then (if s < (t465.length : Int) then (spec_PathRounds.l0 k s t465 1 (rd t465 s)) else (none)) else (none)))) else (some 0)) (0 : Int) := fun b hb => by
    subst hb
    simp only [Bool.false_eq_true, if_false]
    exact Ev.now _
  by_cases h1 : surfB r u = true
  · by_cases h2 : slopeOkI p q = true
    · obtain ⟨r, u, rfl, rfl, hs⟩ := surf_nat h1
      obtain ⟨w1, _, w3⟩ := words_ev h2
      have e : pathP (I r) (I u) p q = (I (pathL r u (slopeWordI p q)), true) := by
        unfold pathP
        rw [if_pos ⟨h1, h2⟩, N_I, N_I]
      rw [e] at hp
      have hsp := spec_path hs (slopeWordI p q) (by omega)
      have hP := isP_pathL hs (slopeWordI p q)
      have hl := pathL_len r u (slopeWordI p q)
      by_cases h3 : 0 ≤ s
      · by_cases h4 : s < (r.length : Int)
        · obtain ⟨s, rfl⟩ : ∃ t : Nat, s = t := ⟨s.toNat, by omega⟩
          obtain ⟨n, i0, i1, i2⟩ := rounds_both hP (by rw [hl]; exact hs.le) (s := s) (by omega)
          refine ⟨n, ⟨⟨by have := i0.2.1; have := hs.le; omega, by have := i0.2.1; rw [I_len]; omega⟩, fun _ => ⟨i0.1, by rw [N_I, N_I]; exact i0.2.2⟩, fun hn => (hn ⟨h1, h2, h3, by rw [I_len]; exact h4⟩).elim⟩, ?_, ?_⟩
          · refine Ev.bind (a := true) (Ev.bind (spec_surf (I r) (I u)) ?_) ?_
            · have h3' : (s : Int) ≥ 0 := h3
              simp only [h1, h3', I_len', h4, if_true]
              have := (slopes_ev p q).1
              rw [h2] at this
              exact Ev.bind this (Ev.now _)
            · simp only [if_true]
              refine Ev.bind w1 (Ev.bind hsp ?_)
              have h5 : (s : Int) < ((pathL r u (slopeWordI p q)).length : Int) := by rw [hl]; exact h4
              simp only [h3, h5, I_len', rdI, if_true]
              exact i1
          · refine Ev.bind hp ?_
            have h5 : ¬ ((s : Int) < 0) := by omega
            have h6 : decide ((s : Int) ≥ ((pathL r u (slopeWordI p q)).length : Int)) = false := by rw [decide_eq_false_iff_not, hl]; omega
            have h7 : (s : Int) < ((pathL r u (slopeWordI p q)).length : Int) := by rw [hl]; exact h4
            simp only [h5, h6, I_len', if_true, if_false]
            refine ev_succ ?_
            simp only [impl_PathRounds.j0, Bool.false_eq_true, h3, h7, I_len', rdI, if_true, if_false]
            exact i2
        · refine ⟨0, ⟨⟨by omega, by omega⟩, fun ho => (h4 (by have := ho.2.2.2; rw [I_len] at this; exact this)).elim, fun _ => rfl⟩, ?_, ?_⟩
          · refine Ev.bind (a := false) (Ev.bind (spec_surf (I r) (I u)) ?_) (no false rfl)
            have h3' : s ≥ 0 := h3
            simp only [h1, h3', I_len', h4, if_true, if_false]
            exact Ev.now _
          · refine Ev.bind hp ?_
            have h5 : ¬ (s < 0) := by omega
            have h6 : decide (s ≥ ((pathL r u (slopeWordI p q)).length : Int)) = true := by rw [decide_eq_true_iff, hl]; omega
            simp only [h5, h6, I_len', if_true, if_false]
            exact j0 _ _
      · refine ⟨0, ⟨⟨by omega, by omega⟩, fun ho => (h3 ho.2.2.1).elim, fun _ => rfl⟩, ?_, ?_⟩
        · refine Ev.bind (a := false) (Ev.bind (spec_surf (I r) (I u)) ?_) (no false rfl)
          have h3' : ¬ s ≥ 0 := h3
          simp only [h1, h3', if_true, if_false]
          exact Ev.now _
        · refine Ev.bind hp ?_
          have h5 : s < 0 := by omega
          simp only [h5, if_true]
          exact j0 _ _
    · have h2' := Bool.eq_false_iff.mpr h2
      have e : pathP r u p q = ([], false) := by
        unfold pathP
        rw [if_neg (fun h => h2 h.2)]
      rw [e] at hp
      refine ⟨0, ⟨⟨by omega, by omega⟩, fun ho => (h2 ho.2.1).elim, fun _ => rfl⟩, ?_, ?_⟩
      · refine Ev.bind (a := false) (Ev.bind (spec_surf r u) ?_) (no false rfl)
        simp only [h1, if_true]
        by_cases h3 : s ≥ 0
        · simp only [h3, if_true]
          by_cases h4 : s < (r.length : Int)
          · simp only [h4, if_true]
            have := (slopes_ev p q).1
            rw [h2'] at this
            exact Ev.bind this (Ev.now _)
          · simp only [h4, if_false]
            exact Ev.now _
        · simp only [h3, if_false]
          exact Ev.now _
      · refine Ev.bind hp ?_
        simp only [Bool.false_eq_true, if_false]
        exact j0 _ _
  · have h1' := Bool.eq_false_iff.mpr h1
    have e : pathP r u p q = ([], false) := by
      unfold pathP
      rw [if_neg (fun h => h1 h.1)]
    rw [e] at hp
    refine ⟨0, ⟨⟨by omega, by omega⟩, fun ho => (h1 ho.1).elim, fun _ => rfl⟩, ?_, ?_⟩
    · refine Ev.bind (a := false) (Ev.bind (spec_surf r u) ?_) (no false rfl)
      simp only [h1', Bool.false_eq_true, if_false]
      exact Ev.now _
    · refine Ev.bind hp ?_
      simp only [Bool.false_eq_true, if_false]
      exact j0 _ _
theorem pathRounds_full (r u : List Int) (s p q : Int) : ∃ n : Nat, (n ≤ 24 ∧ (okP r u s p q → 1 ≤ n ∧ itr (pathL (N r) (N u) (slopeWordI p q)) n s.toNat = s.toNat) ∧ (¬ okP r u s p q → n = 0)) ∧ Ev (fun k => spec_PathRounds.f k r u s p q) (n : Int) ∧ Ev (fun k => impl_PathRounds.f k r u s p q) (n : Int) := by
  obtain ⟨n, ⟨h1, h2⟩, h3⟩ := pathRounds_full2 r u s p q
  exact ⟨n, ⟨h1.1, h2⟩, h3⟩
end Go.Proofs.Ytbdnellgioimbaa.M
end
section
namespace Go.Proofs.Ytbdnellgioimbaa.A
open Go.RowKit Go.Proofs.YtbdnellgioimbaaW.PrintWords Go.Proofs.YtbdnellgioimbaaW.PrintLast Go.Proofs.YtbdnellgioimbaaW.PrintMore
attribute [local go_sem] max2_int min2_int max_two min_two max_three min_three max_four min_four
set_option linter.unusedVariables false
set_option linter.unusedSimpArgs false
def spec_PathText.l0 : Nat → ByteArray → ByteArray → Int → Option (ByteArray)
  | 0, _, _, _ => none
  | k + 1, x9, x10, x11 => if x11 > 0 then (if x10.size + x9.size ≤ 9223372036854775807 then (spec_PathText.l0 k x9 (x10 ++ x9) (wrap64 (x11 - 1))) else (none)) else (some x10)
def spec_PathText.f (k : Nat) (l0_0 : List Int) (l0_1 : List Int) (a1 : Int) (a2 : Int) (a3 : Int) : Option (ByteArray) := (spec_SlopeWord.f k a2 a3).bind fun t982 => ((spec_PathRounds.f k l0_0 l0_1 a1 a2 a3).bind fun t983 => (spec_PathText.l0 k t982 (⟨#[]⟩ : ByteArray) t983))
theorem spec_PathText.mono_l : ∀ k, (∀ y0 y1 y2, LeO (spec_PathText.l0 k y0 y1 y2) (spec_PathText.l0 (k + 1) y0 y1 y2))
  | 0 => fun _ _ _ r h => by simp [spec_PathText.l0] at h
  | k + 1 => by
    have ih0 := spec_PathText.mono_l k
    · intro y0 y1 y2
      unfold spec_PathText.l0
      repeat' first
      | (with_reducible exact ih0 _ _ _)
      | (with_reducible exact spec_PathRounds.mono _ _ _ _ _ _)
      | (with_reducible exact spec_SlopeWord.mono _ _ _)
      | (with_reducible exact LeO.refl _)
      | (with_reducible exact LeO.none _)
      | (with_reducible refine LeO.ite ?_ ?_)
      | (with_reducible refine LeO.bind ?_ (fun _ => ?_))
      | exact ih0 _ _ _
      | exact spec_PathRounds.mono _ _ _ _ _ _
      | exact spec_SlopeWord.mono _ _ _
      | exact LeO.none _
      | refine LeO.ite ?_ ?_
      | refine LeO.bind ?_ (fun _ => ?_)
theorem spec_PathText.mono : ∀ a0 a1 a2 a3 a4 k, LeO (spec_PathText.f k a0 a1 a2 a3 a4) (spec_PathText.f (k + 1) a0 a1 a2 a3 a4) := by
  intro a0 a1 a2 a3 a4 k
  have ih0 := spec_PathText.mono_l k
  unfold spec_PathText.f
  repeat' first
      | (with_reducible exact ih0 _ _ _)
      | (with_reducible exact spec_PathRounds.mono _ _ _ _ _ _)
      | (with_reducible exact spec_SlopeWord.mono _ _ _)
      | (with_reducible exact LeO.refl _)
      | (with_reducible exact LeO.none _)
      | (with_reducible refine LeO.ite ?_ ?_)
      | (with_reducible refine LeO.bind ?_ (fun _ => ?_))
      | exact ih0 _ _ _
      | exact spec_PathRounds.mono _ _ _ _ _ _
      | exact spec_SlopeWord.mono _ _ _
      | exact LeO.none _
      | refine LeO.ite ?_ ?_
      | refine LeO.bind ?_ (fun _ => ?_)
set_option maxHeartbeats 8000000 in
set_option maxRecDepth 100000 in
theorem spec_PathText.calls (k : Nat) (A0_0 : Option Addr) (c0_0 : Nat) (l0_0 : List Int) (A0_1 : Option Addr) (c0_1 : Nat) (l0_1 : List Int) (a1 : Int) (a2 : Int) (a3 : Int) (r : ByteArray) (w : World) (hr0_0 : Kd.C (Kd.int .i64) w A0_0 l0_0.length l0_0) (hc0_0 : l0_0.length ≤ c0_0) (hr0_1 : Kd.C (Kd.int .i64) w A0_1 l0_1.length l0_1) (hc0_1 : l0_1.length ≤ c0_1) (h : spec_PathText.f k l0_0 l0_1 a1 a2 a3 = some r) :
    Calls Try.prog 32 #[.agg #[.slice A0_0 l0_0.length c0_0, .slice A0_1 l0_1.length c0_1], .int .i64 a1, .int .i64 a2, .int .i64 a3] w fun e w' => e = .returned (.string r) ∧ Below w.heap.size w w' := by
  have hu27 := Try.underlying27
  have HR0_0 := Aside0.mk hr0_0
  have HC0_0 := Aside0.mk hc0_0
  clear hr0_0 hc0_0
  have HR0_1 := Aside0.mk hr0_1
  have HC0_1 := Aside0.mk hc0_1
  clear hr0_1 hc0_1
  have HB := Aside0.mk (Below.refl w.heap.size w)
  have H : ((spec_SlopeWord.f k a2 a3).bind fun t982 => ((spec_PathRounds.f k l0_0 l0_1 a1 a2 a3).bind fun t983 => (spec_PathText.l0 k t982 (⟨#[]⟩ : ByteArray) t983))) = some r := h
  clear h
  replace H := Option.bind_eq_some_iff.mp H
  obtain ⟨t982, A50, H⟩ := H
  replace H : ((spec_PathRounds.f k l0_0 l0_1 a1 a2 a3).bind fun t983 => (spec_PathText.l0 k t982 (⟨#[]⟩ : ByteArray) t983)) = some r := H
  have A5 := Aside0.mk A50
  clear A50
  replace H := Option.bind_eq_some_iff.mp H
  obtain ⟨t983, A60, H⟩ := H
  replace H : (spec_PathText.l0 k t982 (⟨#[]⟩ : ByteArray) t983) = some r := H
  have A6 := Aside0.mk A60
  clear A60
  have H' := Aside0.mk H
  clear H
  go_enter Try.func32, Try.ntmps32
  go_wp2_with (first | ((with_reducible refine gate_dst (N := 4) rfl ?_); refine box_event ?hg (N := 4) ?hd (cs := #[.slice A0_0 l0_0.length c0_0, .slice A0_1 l0_1.length c0_1]) (t := 27) ?hr ?_; (case hd => rfl); (case hg => rfl); (case hr => first | (go_simp; done) | (go_simp; rfl)); intro gb981 hg w7 hbox hb; have n0_ := Aside0.mk (below_step (by repeat (first | (with_reducible first | exact HB.out | apply below_alloc | apply pw_below_drewN | apply below_drew1) | exact HB.out)) hb); have n1_ := Aside0.mk (hbox); have n2_ := Aside0.mk ((by rw [hg]; exact (below_size (by repeat (first | (with_reducible first | exact HB.out | apply below_alloc | apply pw_below_drewN | apply below_drew1) | exact HB.out))) : w.heap.size ≤ gb981)); have n3_ := Aside0.mk ((by rw [hg]; exact (below_size (by repeat (first | (with_reducible first | exact HB.out | apply below_alloc | apply pw_below_drewN | apply below_drew1) | exact HB.out))) : w.heap.size ≤ gb981)); clear HB; have HB := n0_; have BK981 := n1_; have GW981 := n2_; have GE981 := n3_; clear n0_ n1_ n2_ n3_; clear hb hbox hg) | ((with_reducible refine gate_callee (f := 80) rfl ?_); refine goesL_ (some 14) rfl rfl Try.func80 (by kernel_rfl) rfl #[.int .i64 a2, .int .i64 a3] rfl (by (try simp only [List.map_toArray, List.map_cons, List.map_nil]); first | done | rfl | (simp only [List.length_drop, List.length_take]; rfl)) ?_; (with_reducible refine (spec_SlopeWord.calls k a2 a3 t982 _ A5.out).mono ?_); rintro e w' ⟨rfl, ⟨nd, rfl⟩⟩; refine ⟨_, rfl, ?_⟩; have hcz8_0 : w7.cell? ⟨gb981, 0, none⟩ = some (.slice A0_0 l0_0.length c0_0) := (blk_cell BK981.out 0).trans rfl; have hcz8_1 : w7.cell? ⟨gb981, 1, none⟩ = some (.slice A0_1 l0_1.length c0_1) := (blk_cell BK981.out 1).trans rfl; have hfz8_0 := blk_frozen BK981.out 0; have hfz8_1 := blk_frozen BK981.out 1) | ((with_reducible refine gate_callee (f := 81) rfl ?_); refine goesL_ (some 19) rfl rfl Try.func81 (by kernel_rfl) rfl #[.agg #[.slice A0_0 l0_0.length c0_0, .slice A0_1 l0_1.length c0_1], .int .i64 a1, .int .i64 a2, .int .i64 a3] rfl (by (try simp only [List.map_toArray, List.map_cons, List.map_nil]); first | done | rfl | (simp only [List.length_drop, List.length_take]; rfl)) ?_; (with_reducible refine (spec_PathRounds.calls k _ _ l0_0 _ _ l0_1 a1 a2 a3 t983 _ ?side1 ?side2 ?side3 ?side4 A6.out).mono ?_); (case side1 => repeat (first | exact (Kd.C_below HR0_0.out (by repeat (first | (with_reducible first | exact HB.out | apply below_alloc | apply pw_below_drewN | apply below_drew1 | refine below_set ?_ GE981.out) | exact HB.out))) | (with_reducible refine Kd.C_alloc ?_ _) | (with_reducible refine Kd.C_drewN ?_ _) | (with_reducible refine Kd.C_drew ?_))); (case side2 => exact HC0_0.out); (case side3 => repeat (first | exact (Kd.C_below HR0_1.out (by repeat (first | (with_reducible first | exact HB.out | apply below_alloc | apply pw_below_drewN | apply below_drew1 | refine below_set ?_ GE981.out) | exact HB.out))) | (with_reducible refine Kd.C_alloc ?_ _) | (with_reducible refine Kd.C_drewN ?_ _) | (with_reducible refine Kd.C_drew ?_))); (case side4 => exact HC0_1.out); rintro e w9 ⟨rfl, hb⟩; refine ⟨_, rfl, ?_⟩; have n0_ := Aside0.mk (blk_below (g := gb981) (o := .cells #[.slice A0_0 l0_0.length c0_0, .slice A0_1 l0_1.length c0_1] 27 (0, 0)) (by (with_reducible repeat (first | refine blk_drewN ?_ _ | refine blk_drew ?_ | refine blk_alloc ?_ _)); exact BK981.out) hb); have n1_ := Aside0.mk (below_step (by repeat (first | (with_reducible first | exact HB.out | apply below_alloc | apply pw_below_drewN | apply below_drew1 | refine below_set ?_ GE981.out) | exact HB.out)) hb); clear BK981; clear HB; have BK981 := n0_; have HB := n1_; clear n0_ n1_; (try clear hb); (try clear hb2); (try clear hk); (try clear hi)))
  go_loopg [10, 11] k (fun kq v10 v11 w' => ∃ (x10_1 : ByteArray) (x11_1 : Int), v10 = .string x10_1 ∧ v11 = .int .i64 x11_1 ∧ Aside0 (spec_PathText.l0 kq t982 x10_1 x11_1 = some r) ∧ Aside0 (kq ≤ k) ∧ Aside0 (w'.heap[gb981]? = some (.cells #[(.slice A0_0 l0_0.length c0_0), (.slice A0_1 l0_1.length c0_1)] 27 (0, 0))) ∧ Aside0 (Below w.heap.size w w'))
  case atStart => exact ⟨((⟨#[]⟩ : ByteArray)), (t983), (by first | rfl | (simp; done) | (simp [*]; done)), (by first | rfl | (simp; done) | (simp [*]; done)), H', ⟨Nat.le_refl _⟩, ⟨by (with_reducible repeat (first | refine blk_drewN ?_ _ | refine blk_drew ?_ | refine blk_alloc ?_ _)); exact BK981.out⟩, ⟨by repeat (first | (with_reducible first | exact HB.out | apply below_alloc | apply pw_below_drewN | apply below_drew1 | refine below_set ?_ GE981.out) | exact HB.out)⟩⟩
  case round =>
    clear H'
    try clear p2
    try clear c3
    try clear c8
    try clear hcz8_0
    try clear hcz8_1
    try clear hfz8_0
    try clear hfz8_1
    obtain ⟨x10_1, x11_1, rfl, rfl, HA, HK1, BK981, HB⟩ := hrel
    cases gk with
    | zero => exact absurd HA.out (by simp [spec_PathText.l0])
    | succ k1 =>
      have H := HA.out
      clear HA
      simp only [spec_PathText.l0] at H
      by_cases c10 : x11_1 > 0
      · rw [if_pos c10] at H
        have c10b0 : decide (0 < x11_1) = true := decide_eq_true c10
        clear c10
        by_cases c11 : x10_1.size + t982.size ≤ 9223372036854775807
        · rw [if_pos c11] at H
          have c11b0 := eq_true c11
          have c11b1 : decide (x10_1.size + t982.size ≤ 9223372036854775807) = true := decide_eq_true c11
          try have c11b2 : (9223372036854775807 < x10_1.size + t982.size) = False := eq_false (Nat.not_lt.2 c11)
          have H' := Aside0.mk H
          clear H
          go_wp2
          go_roundg k1
          case measure => have := HK1.out; omega
          case rel => exact ⟨(x10_1 ++ t982), (wrap64 (x11_1 - 1)), (by first | rfl | (simp; done) | (simp [*]; done)), (by first | rfl | (simp; done) | (simp [*]; done)), H', ⟨by have := HK1.out; omega⟩, ⟨by (with_reducible repeat (first | refine blk_drewN ?_ _ | refine blk_drew ?_ | refine blk_alloc ?_ _)); exact BK981.out⟩, ⟨by repeat (first | (with_reducible first | exact HB.out | apply below_alloc | apply pw_below_drewN | apply below_drew1 | refine below_set ?_ GE981.out) | exact HB.out)⟩⟩
        · rw [if_neg c11] at H
          exact absurd H (by simp)
      · rw [if_neg c10] at H
        have c10b0 : decide (0 < x11_1) = false := decide_eq_false c10
        clear c10
        obtain rfl := Option.some.inj H
        go_wp2
        go_ret
        exact ⟨by first | rfl | (simp [errW_none, errW_some] <;> rfl) | (simp [*, errW_none, errW_some] <;> rfl), by repeat (first | (with_reducible first | exact HB.out | apply below_alloc | apply pw_below_drewN | apply below_drew1 | refine below_set ?_ GE981.out) | exact HB.out)⟩
end Go.Proofs.Ytbdnellgioimbaa.A
end
