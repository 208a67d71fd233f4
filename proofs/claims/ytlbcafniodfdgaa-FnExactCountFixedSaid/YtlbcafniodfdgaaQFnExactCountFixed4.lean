/- Lemmas for the row FnExactCountFixed: the program's functions told as plain functions, and plain mathematics. No conditions. -/
import Derived.Test.YtlbcafniodfdgaaQFnExactCountFixed3
section
namespace Go.Proofs.Ytlbcafniodfdgaa.A
open Go.RowKit Go.Proofs.YtlbcafniodfdgaaW.PrintWords Go.Proofs.YtlbcafniodfdgaaW.PrintLast Go.Proofs.YtlbcafniodfdgaaW.PrintMore
attribute [local go_sem] max2_int min2_int max_two min_two max_three min_three max_four min_four
set_option linter.unusedVariables false
set_option linter.unusedSimpArgs false
mutual
def impl_FixedPoints.l0 : Nat → List Int → List Int → List Int → Int → Int → List Int → List Int → Option (List Int × Bool)
  | 0, _, _, _, _, _, _, _ => none
  | k + 1, x1, x6, x27, x28, x29, x889000, x889001 => if x29 < x28 then (if 0 ≤ x29 then (if x29 < (x27.length : Int) then (if (rd x27 x29) = x29 then (if 0 < (x6.length : Int) then (impl_FixedPoints.j1 k x1 (x6.set (0 : Int).toNat (wrap64 ((rd x6 0) + 1))) x29 (rd x27 x29) x27 x28 x29 x889000 x889001) else (none)) else (impl_FixedPoints.j1 k x1 x6 x29 (rd x27 x29) x27 x28 x29 x889000 x889001)) else (none)) else (none)) else ((impl_InversePerm.f k x889000).bind fun t905 => ((impl_InversePerm.f k x889001).bind fun t908 => (if 0 ≤ (x1.length : Int) then (if ((x1.length : Int) : Int).toNat ≤ 35184372088832 then ((impl_CornersOf.f k x889000 x889001).bind fun t914 => (impl_FixedPoints.l1 k x1 x6 t905 t908 (List.replicate ((x1.length : Int) : Int).toNat 0) t914 t914 (t914.length : Int) 0)) else (none)) else (none))))
def impl_FixedPoints.j1 : Nat → List Int → List Int → Int → Int → List Int → Int → Int → List Int → List Int → Option (List Int × Bool)
  | 0, _, _, _, _, _, _, _, _, _ => none
  | k + 1, x1, x6, x7, x8, x27, x28, x29, x889000, x889001 => if 0 ≤ x7 then (if x7 < (x889000.length : Int) then (if x8 = (rd x889000 x7) then (if 1 < (x6.length : Int) then ((some (x6.set (1 : Int).toNat (wrap64 ((rd x6 1) + 1)) : List Int)).bind fun y898 => (if x7 < (x889001.length : Int) then (if x8 = (rd x889001 x7) then (if 2 < (x6.length : Int) then (impl_FixedPoints.l0 k x1 (y898.set (2 : Int).toNat (wrap64 ((rd y898 2) + 1))) x27 x28 (wrap64 (x29 + 1)) x889000 x889001) else (none)) else (impl_FixedPoints.l0 k x1 y898 x27 x28 (wrap64 (x29 + 1)) x889000 x889001)) else (none))) else (none)) else (if x7 < (x889001.length : Int) then (if x8 = (rd x889001 x7) then (if 2 < (x6.length : Int) then (impl_FixedPoints.l0 k x1 (x6.set (2 : Int).toNat (wrap64 ((rd x6 2) + 1))) x27 x28 (wrap64 (x29 + 1)) x889000 x889001) else (none)) else (impl_FixedPoints.l0 k x1 x6 x27 x28 (wrap64 (x29 + 1)) x889000 x889001)) else (none))) else (none)) else (none)
def impl_FixedPoints.l1 : Nat → List Int → List Int → List Int → List Int → List Int → List (List Int) → List (List Int) → Int → Int → Option (List Int × Bool)
  | 0, _, _, _, _, _, _, _, _, _ => none
  | k + 1, x1, x6, x9, x10, x11, x12, x78, x79, x80 => if x80 < x79 then (if 0 ≤ x80 then (if x80 < (x78.length : Int) then (impl_FixedPoints.l2 k x1 x6 x9 x10 x11 x12 x80 x78 x79 x80 (rd_L3 x78 x80) ((rd_L3 x78 x80).length : Int) 0) else (none)) else (none)) else (impl_FixedPoints.l3 k x1 x6 x9 x10 x11 x12 (x12.length : Int) 0)
def impl_FixedPoints.l2 : Nat → List Int → List Int → List Int → List Int → List Int → List (List Int) → Int → List (List Int) → Int → Int → List Int → Int → Int → Option (List Int × Bool)
  | 0, _, _, _, _, _, _, _, _, _, _, _, _, _ => none
  | k + 1, x1, x6, x9, x10, x11, x12, x13, x78, x79, x80, x85, x86, x87 => if x87 < x86 then (if 0 ≤ x87 then (if x87 < (x85.length : Int) then (if 0 ≤ (rd x85 x87) then (if (rd x85 x87) < (x11.length : Int) then (impl_FixedPoints.l2 k x1 x6 x9 x10 (x11.set ((rd x85 x87) : Int).toNat x13) x12 x13 x78 x79 x80 x85 x86 (wrap64 (x87 + 1))) else (none)) else (none)) else (none)) else (none)) else (impl_FixedPoints.l1 k x1 x6 x9 x10 x11 x12 x78 x79 (wrap64 (x80 + 1)))
def impl_FixedPoints.l3 : Nat → List Int → List Int → List Int → List Int → List Int → List (List Int) → Int → Int → Option (List Int × Bool)
  | 0, _, _, _, _, _, _, _, _ => none
  | k + 1, x1, x6, x9, x10, x11, x97, x98, x99 => if x99 < x98 then (if 0 ≤ x99 then (if x99 < (x97.length : Int) then (impl_FixedPoints.l4 k x1 x6 x9 x10 x11 x99 true x97 x98 x99 (rd_L3 x97 x99) ((rd_L3 x97 x99).length : Int) 0) else (none)) else (none)) else (some (x6, true))
def impl_FixedPoints.l4 : Nat → List Int → List Int → List Int → List Int → List Int → Int → Bool → List (List Int) → Int → Int → List Int → Int → Int → Option (List Int × Bool)
  | 0, _, _, _, _, _, _, _, _, _, _, _, _, _ => none
  | k + 1, x1, x6, x9, x10, x11, x17, x19, x97, x98, x99, x104, x105, x106 => if x106 < x105 then (if 0 ≤ x106 then (if x106 < (x104.length : Int) then (if x19 = true then (if 0 ≤ (rd x104 x106) then (if (rd x104 x106) < (x1.length : Int) then (if 0 ≤ (rd x1 (rd x104 x106)) then (if (rd x1 (rd x104 x106)) < (x9.length : Int) then (if 0 ≤ (rd x9 (rd x1 (rd x104 x106))) then (if (rd x9 (rd x1 (rd x104 x106))) < (x10.length : Int) then (if 0 ≤ (rd x10 (rd x9 (rd x1 (rd x104 x106)))) then (if (rd x10 (rd x9 (rd x1 (rd x104 x106)))) < (x11.length : Int) then (impl_FixedPoints.l4 k x1 x6 x9 x10 x11 x17 ((rd x11 (rd x10 (rd x9 (rd x1 (rd x104 x106))))) == x17) x97 x98 x99 x104 x105 (wrap64 (x106 + 1))) else (none)) else (none)) else (none)) else (none)) else (none)) else (none)) else (none)) else (none)) else (impl_FixedPoints.l4 k x1 x6 x9 x10 x11 x17 false x97 x98 x99 x104 x105 (wrap64 (x106 + 1)))) else (none)) else (none)) else (if x19 = true then (if 3 < (x6.length : Int) then (impl_FixedPoints.l3 k x1 (x6.set (3 : Int).toNat (wrap64 ((rd x6 3) + 1))) x9 x10 x11 x97 x98 (wrap64 (x99 + 1))) else (none)) else (impl_FixedPoints.l3 k x1 x6 x9 x10 x11 x97 x98 (wrap64 (x99 + 1))))
end
def impl_FixedPoints.f (k : Nat) (l0_0 : List Int) (l0_1 : List Int) (l1 : List Int) : Option (List Int × Bool) := (impl_IsTurn.f k l0_0 l0_1 l1).bind fun t889 => (if t889 = true then (if 4 ≤ 35184372088832 then (impl_FixedPoints.l0 k l1 (List.replicate 4 0) l1 (l1.length : Int) 0 l0_0 l0_1) else (none)) else (some (([] : List Int), false)))
theorem impl_FixedPoints.mono_l : ∀ k, (∀ y0 y1 y2 y3 y4 y5 y6, LeO (impl_FixedPoints.l0 k y0 y1 y2 y3 y4 y5 y6) (impl_FixedPoints.l0 (k + 1) y0 y1 y2 y3 y4 y5 y6)) ∧ (∀ y0 y1 y2 y3 y4 y5 y6 y7 y8, LeO (impl_FixedPoints.j1 k y0 y1 y2 y3 y4 y5 y6 y7 y8) (impl_FixedPoints.j1 (k + 1) y0 y1 y2 y3 y4 y5 y6 y7 y8)) ∧ (∀ y0 y1 y2 y3 y4 y5 y6 y7 y8, LeO (impl_FixedPoints.l1 k y0 y1 y2 y3 y4 y5 y6 y7 y8) (impl_FixedPoints.l1 (k + 1) y0 y1 y2 y3 y4 y5 y6 y7 y8)) ∧ (∀ y0 y1 y2 y3 y4 y5 y6 y7 y8 y9 y10 y11 y12, LeO (impl_FixedPoints.l2 k y0 y1 y2 y3 y4 y5 y6 y7 y8 y9 y10 y11 y12) (impl_FixedPoints.l2 (k + 1) y0 y1 y2 y3 y4 y5 y6 y7 y8 y9 y10 y11 y12)) ∧ (∀ y0 y1 y2 y3 y4 y5 y6 y7, LeO (impl_FixedPoints.l3 k y0 y1 y2 y3 y4 y5 y6 y7) (impl_FixedPoints.l3 (k + 1) y0 y1 y2 y3 y4 y5 y6 y7)) ∧ (∀ y0 y1 y2 y3 y4 y5 y6 y7 y8 y9 y10 y11 y12, LeO (impl_FixedPoints.l4 k y0 y1 y2 y3 y4 y5 y6 y7 y8 y9 y10 y11 y12) (impl_FixedPoints.l4 (k + 1) y0 y1 y2 y3 y4 y5 y6 y7 y8 y9 y10 y11 y12))
  | 0 => ⟨fun _ _ _ _ _ _ _ r h => by simp [impl_FixedPoints.l0] at h, fun _ _ _ _ _ _ _ _ _ r h => by simp [impl_FixedPoints.j1] at h, fun _ _ _ _ _ _ _ _ _ r h => by simp [impl_FixedPoints.l1] at h, fun _ _ _ _ _ _ _ _ _ _ _ _ _ r h => by simp [impl_FixedPoints.l2] at h, fun _ _ _ _ _ _ _ _ r h => by simp [impl_FixedPoints.l3] at h, fun _ _ _ _ _ _ _ _ _ _ _ _ _ r h => by simp [impl_FixedPoints.l4] at h⟩
  | k + 1 => by
    obtain ⟨ih0, ih1, ih2, ih3, ih4, ih5⟩ := impl_FixedPoints.mono_l k
    refine ⟨?_, ?_, ?_, ?_, ?_, ?_⟩
    · intro y0 y1 y2 y3 y4 y5 y6
      unfold impl_FixedPoints.l0
      repeat' first
      | (with_reducible exact ih0 _ _ _ _ _ _ _)
      | (with_reducible exact ih1 _ _ _ _ _ _ _ _ _)
      | (with_reducible exact ih2 _ _ _ _ _ _ _ _ _)
      | (with_reducible exact ih3 _ _ _ _ _ _ _ _ _ _ _ _ _)
      | (with_reducible exact ih4 _ _ _ _ _ _ _ _)
      | (with_reducible exact ih5 _ _ _ _ _ _ _ _ _ _ _ _ _)
      | (with_reducible exact impl_CornersOf.mono _ _ _)
      | (with_reducible exact impl_InversePerm.mono _ _)
      | (with_reducible exact impl_IsTurn.mono _ _ _ _)
      | (with_reducible exact LeO.refl _)
      | (with_reducible exact LeO.none _)
      | (with_reducible refine LeO.ite ?_ ?_)
      | (with_reducible refine LeO.bind ?_ (fun _ => ?_))
      | exact ih0 _ _ _ _ _ _ _
      | exact ih1 _ _ _ _ _ _ _ _ _
      | exact ih2 _ _ _ _ _ _ _ _ _
      | exact ih3 _ _ _ _ _ _ _ _ _ _ _ _ _
      | exact ih4 _ _ _ _ _ _ _ _
      | exact ih5 _ _ _ _ _ _ _ _ _ _ _ _ _
      | exact impl_CornersOf.mono _ _ _
      | exact impl_InversePerm.mono _ _
      | exact impl_IsTurn.mono _ _ _ _
      | exact LeO.none _
      | refine LeO.ite ?_ ?_
      | refine LeO.bind ?_ (fun _ => ?_)
    · intro y0 y1 y2 y3 y4 y5 y6 y7 y8
      unfold impl_FixedPoints.j1
      repeat' first
      | (with_reducible exact ih0 _ _ _ _ _ _ _)
      | (with_reducible exact ih1 _ _ _ _ _ _ _ _ _)
      | (with_reducible exact ih2 _ _ _ _ _ _ _ _ _)
      | (with_reducible exact ih3 _ _ _ _ _ _ _ _ _ _ _ _ _)
      | (with_reducible exact ih4 _ _ _ _ _ _ _ _)
      | (with_reducible exact ih5 _ _ _ _ _ _ _ _ _ _ _ _ _)
      | (with_reducible exact impl_CornersOf.mono _ _ _)
      | (with_reducible exact impl_InversePerm.mono _ _)
      | (with_reducible exact impl_IsTurn.mono _ _ _ _)
      | (with_reducible exact LeO.refl _)
      | (with_reducible exact LeO.none _)
      | (with_reducible refine LeO.ite ?_ ?_)
      | (with_reducible refine LeO.bind ?_ (fun _ => ?_))
      | exact ih0 _ _ _ _ _ _ _
      | exact ih1 _ _ _ _ _ _ _ _ _
      | exact ih2 _ _ _ _ _ _ _ _ _
      | exact ih3 _ _ _ _ _ _ _ _ _ _ _ _ _
      | exact ih4 _ _ _ _ _ _ _ _
      | exact ih5 _ _ _ _ _ _ _ _ _ _ _ _ _
      | exact impl_CornersOf.mono _ _ _
      | exact impl_InversePerm.mono _ _
      | exact impl_IsTurn.mono _ _ _ _
      | exact LeO.none _
      | refine LeO.ite ?_ ?_
      | refine LeO.bind ?_ (fun _ => ?_)
    · intro y0 y1 y2 y3 y4 y5 y6 y7 y8
      unfold impl_FixedPoints.l1
      repeat' first
      | (with_reducible exact ih0 _ _ _ _ _ _ _)
      | (with_reducible exact ih1 _ _ _ _ _ _ _ _ _)
      | (with_reducible exact ih2 _ _ _ _ _ _ _ _ _)
      | (with_reducible exact ih3 _ _ _ _ _ _ _ _ _ _ _ _ _)
      | (with_reducible exact ih4 _ _ _ _ _ _ _ _)
      | (with_reducible exact ih5 _ _ _ _ _ _ _ _ _ _ _ _ _)
      | (with_reducible exact impl_CornersOf.mono _ _ _)
      | (with_reducible exact impl_InversePerm.mono _ _)
      | (with_reducible exact impl_IsTurn.mono _ _ _ _)
      | (with_reducible exact LeO.refl _)
      | (with_reducible exact LeO.none _)
      | (with_reducible refine LeO.ite ?_ ?_)
      | (with_reducible refine LeO.bind ?_ (fun _ => ?_))
      | exact ih0 _ _ _ _ _ _ _
      | exact ih1 _ _ _ _ _ _ _ _ _
      | exact ih2 _ _ _ _ _ _ _ _ _
      | exact ih3 _ _ _ _ _ _ _ _ _ _ _ _ _
      | exact ih4 _ _ _ _ _ _ _ _
      | exact ih5 _ _ _ _ _ _ _ _ _ _ _ _ _
      | exact impl_CornersOf.mono _ _ _
      | exact impl_InversePerm.mono _ _
      | exact impl_IsTurn.mono _ _ _ _
      | exact LeO.none _
      | refine LeO.ite ?_ ?_
      | refine LeO.bind ?_ (fun _ => ?_)
    · intro y0 y1 y2 y3 y4 y5 y6 y7 y8 y9 y10 y11 y12
      unfold impl_FixedPoints.l2
      repeat' first
      | (with_reducible exact ih0 _ _ _ _ _ _ _)
      | (with_reducible exact ih1 _ _ _ _ _ _ _ _ _)
      | (with_reducible exact ih2 _ _ _ _ _ _ _ _ _)
      | (with_reducible exact ih3 _ _ _ _ _ _ _ _ _ _ _ _ _)
      | (with_reducible exact ih4 _ _ _ _ _ _ _ _)
      | (with_reducible exact ih5 _ _ _ _ _ _ _ _ _ _ _ _ _)
      | (with_reducible exact impl_CornersOf.mono _ _ _)
      | (with_reducible exact impl_InversePerm.mono _ _)
      | (with_reducible exact impl_IsTurn.mono _ _ _ _)
      | (with_reducible exact LeO.refl _)
      | (with_reducible exact LeO.none _)
      | (with_reducible refine LeO.ite ?_ ?_)
      | (with_reducible refine LeO.bind ?_ (fun _ => ?_))
      | exact ih0 _ _ _ _ _ _ _
      | exact ih1 _ _ _ _ _ _ _ _ _
      | exact ih2 _ _ _ _ _ _ _ _ _
      | exact ih3 _ _ _ _ _ _ _ _ _ _ _ _ _
      | exact ih4 _ _ _ _ _ _ _ _
      | exact ih5 _ _ _ _ _ _ _ _ _ _ _ _ _
      | exact impl_CornersOf.mono _ _ _
      | exact impl_InversePerm.mono _ _
      | exact impl_IsTurn.mono _ _ _ _
      | exact LeO.none _
      | refine LeO.ite ?_ ?_
      | refine LeO.bind ?_ (fun _ => ?_)
    · intro y0 y1 y2 y3 y4 y5 y6 y7
      unfold impl_FixedPoints.l3
      repeat' first
      | (with_reducible exact ih0 _ _ _ _ _ _ _)
      | (with_reducible exact ih1 _ _ _ _ _ _ _ _ _)
      | (with_reducible exact ih2 _ _ _ _ _ _ _ _ _)
      | (with_reducible exact ih3 _ _ _ _ _ _ _ _ _ _ _ _ _)
      | (with_reducible exact ih4 _ _ _ _ _ _ _ _)
      | (with_reducible exact ih5 _ _ _ _ _ _ _ _ _ _ _ _ _)
      | (with_reducible exact impl_CornersOf.mono _ _ _)
      | (with_reducible exact impl_InversePerm.mono _ _)
      | (with_reducible exact impl_IsTurn.mono _ _ _ _)
      | (with_reducible exact LeO.refl _)
      | (with_reducible exact LeO.none _)
      | (with_reducible refine LeO.ite ?_ ?_)
      | (with_reducible refine LeO.bind ?_ (fun _ => ?_))
      | exact ih0 _ _ _ _ _ _ _
      | exact ih1 _ _ _ _ _ _ _ _ _
      | exact ih2 _ _ _ _ _ _ _ _ _
      | exact ih3 _ _ _ _ _ _ _ _ _ _ _ _ _
      | exact ih4 _ _ _ _ _ _ _ _
      | exact ih5 _ _ _ _ _ _ _ _ _ _ _ _ _
      | exact impl_CornersOf.mono _ _ _
      | exact impl_InversePerm.mono _ _
      | exact impl_IsTurn.mono _ _ _ _
      | exact LeO.none _
      | refine LeO.ite ?_ ?_
      | refine LeO.bind ?_ (fun _ => ?_)
    · intro y0 y1 y2 y3 y4 y5 y6 y7 y8 y9 y10 y11 y12
      unfold impl_FixedPoints.l4
      repeat' first
      | (with_reducible exact ih0 _ _ _ _ _ _ _)
      | (with_reducible exact ih1 _ _ _ _ _ _ _ _ _)
      | (with_reducible exact ih2 _ _ _ _ _ _ _ _ _)
      | (with_reducible exact ih3 _ _ _ _ _ _ _ _ _ _ _ _ _)
      | (with_reducible exact ih4 _ _ _ _ _ _ _ _)
      | (with_reducible exact ih5 _ _ _ _ _ _ _ _ _ _ _ _ _)
      | (with_reducible exact impl_CornersOf.mono _ _ _)
      | (with_reducible exact impl_InversePerm.mono _ _)
      | (with_reducible exact impl_IsTurn.mono _ _ _ _)
      | (with_reducible exact LeO.refl _)
      | (with_reducible exact LeO.none _)
      | (with_reducible refine LeO.ite ?_ ?_)
      | (with_reducible refine LeO.bind ?_ (fun _ => ?_))
      | exact ih0 _ _ _ _ _ _ _
      | exact ih1 _ _ _ _ _ _ _ _ _
      | exact ih2 _ _ _ _ _ _ _ _ _
      | exact ih3 _ _ _ _ _ _ _ _ _ _ _ _ _
      | exact ih4 _ _ _ _ _ _ _ _
      | exact ih5 _ _ _ _ _ _ _ _ _ _ _ _ _
      | exact impl_CornersOf.mono _ _ _
      | exact impl_InversePerm.mono _ _
      | exact impl_IsTurn.mono _ _ _ _
      | exact LeO.none _
      | refine LeO.ite ?_ ?_
      | refine LeO.bind ?_ (fun _ => ?_)
theorem impl_FixedPoints.mono : ∀ a0 a1 a2 k, LeO (impl_FixedPoints.f k a0 a1 a2) (impl_FixedPoints.f (k + 1) a0 a1 a2) := by
  intro a0 a1 a2 k
  obtain ⟨ih0, ih1, ih2, ih3, ih4, ih5⟩ := impl_FixedPoints.mono_l k
  unfold impl_FixedPoints.f
  repeat' first
      | (with_reducible exact ih0 _ _ _ _ _ _ _)
      | (with_reducible exact ih1 _ _ _ _ _ _ _ _ _)
      | (with_reducible exact ih2 _ _ _ _ _ _ _ _ _)
      | (with_reducible exact ih3 _ _ _ _ _ _ _ _ _ _ _ _ _)
      | (with_reducible exact ih4 _ _ _ _ _ _ _ _)
      | (with_reducible exact ih5 _ _ _ _ _ _ _ _ _ _ _ _ _)
      | (with_reducible exact impl_CornersOf.mono _ _ _)
      | (with_reducible exact impl_InversePerm.mono _ _)
      | (with_reducible exact impl_IsTurn.mono _ _ _ _)
      | (with_reducible exact LeO.refl _)
      | (with_reducible exact LeO.none _)
      | (with_reducible refine LeO.ite ?_ ?_)
      | (with_reducible refine LeO.bind ?_ (fun _ => ?_))
      | exact ih0 _ _ _ _ _ _ _
      | exact ih1 _ _ _ _ _ _ _ _ _
      | exact ih2 _ _ _ _ _ _ _ _ _
      | exact ih3 _ _ _ _ _ _ _ _ _ _ _ _ _
      | exact ih4 _ _ _ _ _ _ _ _
      | exact ih5 _ _ _ _ _ _ _ _ _ _ _ _ _
      | exact impl_CornersOf.mono _ _ _
      | exact impl_InversePerm.mono _ _
      | exact impl_IsTurn.mono _ _ _ _
      | exact LeO.none _
      | refine LeO.ite ?_ ?_
      | refine LeO.bind ?_ (fun _ => ?_)
set_option maxHeartbeats 8000000 in
set_option maxRecDepth 100000 in
theorem impl_FixedPoints.calls (k : Nat) (A0_0 : Option Addr) (c0_0 : Nat) (l0_0 : List Int) (A0_1 : Option Addr) (c0_1 : Nat) (l0_1 : List Int) (A1 : Option Addr) (c1 : Nat) (l1 : List Int) (r1 : List Int) (r2 : Bool) (w : World) (hr0_0 : Kd.C (Kd.int .i64) w A0_0 l0_0.length l0_0) (hc0_0 : l0_0.length ≤ c0_0) (hr0_1 : Kd.C (Kd.int .i64) w A0_1 l0_1.length l0_1) (hc0_1 : l0_1.length ≤ c0_1) (hr1 : Kd.C (Kd.int .i64) w A1 l1.length l1) (hc1 : l1.length ≤ c1) (h : impl_FixedPoints.f k l0_0 l0_1 l1 = some (r1, r2)) :
    Calls Try.prog 51 #[.agg #[.slice A0_0 l0_0.length c0_0, .slice A0_1 l0_1.length c0_1], .slice A1 l1.length c1] w fun e w' => ∃ v0_ : Value, e = .returned (.tuple #[v0_, .bool r2]) ∧ Kd.R (Kd.int .i64) 3 w' w.heap.size (fun _ => True) v0_ r1 ∧ Below w.heap.size w w' := by
  have hu34 := Try.underlying34
  have HR0_0 := Aside0.mk hr0_0
  have HC0_0 := Aside0.mk hc0_0
  clear hr0_0 hc0_0
  have HR0_1 := Aside0.mk hr0_1
  have HC0_1 := Aside0.mk hc0_1
  clear hr0_1 hc0_1
  have HR1 := Aside0.mk hr1
  have HC1 := Aside0.mk hc1
  clear hr1 hc1
  have HB := Aside0.mk (Below.refl w.heap.size w)
  have H : ((impl_IsTurn.f k l0_0 l0_1 l1).bind fun t889 => (if t889 = true then (if 4 ≤ 35184372088832 then (impl_FixedPoints.l0 k l1 (List.replicate 4 0) l1 (l1.length : Int) 0 l0_0 l0_1) else (none)) else (some (([] : List Int), false)))) = some (r1, r2) := h
  clear h
  replace H := Option.bind_eq_some_iff.mp H
  obtain ⟨t889, A30, H⟩ := H
  replace H : (if t889 = true then (if 4 ≤ 35184372088832 then (impl_FixedPoints.l0 k l1 (List.replicate 4 0) l1 (l1.length : Int) 0 l0_0 l0_1) else (none)) else (some (([] : List Int), false))) = some (r1, r2) := H
  have A3 := Aside0.mk A30
  clear A30
  by_cases c4 : t889 = true
  · subst c4
    have H1 : (if 4 ≤ 35184372088832 then (impl_FixedPoints.l0 k l1 (List.replicate 4 0) l1 (l1.length : Int) 0 l0_0 l0_1) else (none)) = some (r1, r2) := by rw [if_pos rfl] at H; exact H
    clear H
    have H := H1
    clear H1
    by_cases c5 : 4 ≤ 35184372088832
    · rw [if_pos c5] at H
      have c5b0 := eq_true c5
      have c5b1 : decide (4 ≤ 35184372088832) = true := decide_eq_true c5
      clear c5
      obtain ⟨y890, hy890⟩ : ∃ y_ : List Int, y_ = (List.replicate 4 0) := ⟨_, rfl⟩
      replace H : (impl_FixedPoints.l0 k l1 y890 l1 (l1.length : Int) 0 l0_0 l0_1) = some (r1, r2) := by first | (rw [hy890]; with_reducible exact H) | (have H2_ := (Option.bind_some _ _).symm.trans H; rw [hy890]; with_reducible exact H2_) | (have H2_ := (Option.bind_some _ _).symm.trans H; with_reducible exact H2_) | with_reducible exact H | (rw [hy890]; exact H) | exact H
      have Ny890 := Aside0.mk hy890
      clear hy890
      have H' := Aside0.mk H
      clear H
      go_enter Try.func51, Try.ntmps51
      go_wp2_with (first | ((with_reducible refine gate_dst (N := 2) rfl ?_); refine box_event ?hg (N := 2) ?hd (cs := #[.slice A0_0 l0_0.length c0_0, .slice A0_1 l0_1.length c0_1]) (t := 34) ?hr ?_; (case hd => rfl); (case hg => rfl); (case hr => first | (go_simp; done) | (go_simp; rfl)); intro gb888 hg w6 hbox hb; have n0_ := Aside0.mk (below_step (by repeat (first | (with_reducible first | exact HB.out | apply below_alloc | apply pw_below_drewN | apply below_drew1) | exact HB.out)) hb); have n1_ := Aside0.mk (hbox); have n2_ := Aside0.mk ((by rw [hg]; exact (below_size (by repeat (first | (with_reducible first | exact HB.out | apply below_alloc | apply pw_below_drewN | apply below_drew1) | exact HB.out))) : w.heap.size ≤ gb888)); have n3_ := Aside0.mk ((by rw [hg]; exact (below_size (by repeat (first | (with_reducible first | exact HB.out | apply below_alloc | apply pw_below_drewN | apply below_drew1) | exact HB.out))) : w.heap.size ≤ gb888)); clear HB; have HB := n0_; have BK888 := n1_; have GW888 := n2_; have GE888 := n3_; clear n0_ n1_ n2_ n3_; clear hb hbox hg; have hcz7_0 : w6.cell? ⟨gb888, 0, none⟩ = some (.slice A0_0 l0_0.length c0_0) := (blk_cell BK888.out 0).trans rfl; have hcz7_1 : w6.cell? ⟨gb888, 1, none⟩ = some (.slice A0_1 l0_1.length c0_1) := (blk_cell BK888.out 1).trans rfl; have hfz7_0 := blk_frozen BK888.out 0; have hfz7_1 := blk_frozen BK888.out 1) | ((with_reducible refine gate_callee (f := 24) rfl ?_); refine goesL_ (some 24) rfl rfl Try.func24 (by kernel_rfl) rfl #[.agg #[.slice A0_0 l0_0.length c0_0, .slice A0_1 l0_1.length c0_1], .slice A1 l1.length c1] rfl (by (try simp only [List.map_toArray, List.map_cons, List.map_nil]); first | done | rfl | (simp only [List.length_drop, List.length_take]; rfl)) ?_; (with_reducible refine (impl_IsTurn.calls k _ _ l0_0 _ _ l0_1 _ _ l1 true _ ?side1 ?side2 ?side3 ?side4 ?side5 ?side6 A3.out).mono ?_); (case side1 => repeat (first | exact (Kd.C_below HR0_0.out HB.out) | (with_reducible refine Kd.C_alloc ?_ _) | (with_reducible refine Kd.C_drewN ?_ _) | (with_reducible refine Kd.C_drew ?_))); (case side2 => exact HC0_0.out); (case side3 => repeat (first | exact (Kd.C_below HR0_1.out HB.out) | (with_reducible refine Kd.C_alloc ?_ _) | (with_reducible refine Kd.C_drewN ?_ _) | (with_reducible refine Kd.C_drew ?_))); (case side4 => exact HC0_1.out); (case side5 => repeat (first | exact (Kd.C_below HR1.out HB.out) | (with_reducible refine Kd.C_alloc ?_ _) | (with_reducible refine Kd.C_drewN ?_ _) | (with_reducible refine Kd.C_drew ?_))); (case side6 => exact HC1.out); rintro e w8 ⟨rfl, hb⟩; refine ⟨_, rfl, ?_⟩; have n0_ := Aside0.mk (blk_below (g := gb888) (o := .cells #[.slice A0_0 l0_0.length c0_0, .slice A0_1 l0_1.length c0_1] 34 (0, 0)) (by (with_reducible repeat (first | refine blk_drewN ?_ _ | refine blk_drew ?_ | refine blk_alloc ?_ _)); exact BK888.out) hb); have n1_ := Aside0.mk (below_step (by repeat (first | (with_reducible first | exact HB.out | apply below_alloc | apply pw_below_drewN | apply below_drew1 | refine below_set ?_ GE888.out) | exact HB.out)) hb); clear BK888; clear HB; have BK888 := n0_; have HB := n1_; clear n0_ n1_; (try clear hb); (try clear hb2); (try clear hk); (try clear hi)) | ((with_reducible refine gate_dst (N := 26) rfl ?_); refine Kd.R_make (Kd.int .i64) _ 3 rfl (N := 26) rfl 29 _ _ rfl 4 rfl rfl Try.underlying29 (.int .i64 0) 8 info3 rfl (by decide) (by omega) 0 (ok := fun _ => True) (okp := fun _ => True) rfl (fun _ hk => hk) trivial (by omega) (by omega) (Below.refl _ _) (Nat.le_refl _) ?_; intro v891 w9 ho10 hb hg_ hnew_; clear hg_ hnew_; (first | rw [← Ny890.out] at ho10 | (simp only [Int.reduceToNat] at ho10; rw [← Ny890.out] at ho10)); have n0_ := Aside0.mk (Kd.R_lower ho10 (below_size (by repeat (first | (with_reducible first | exact HB.out | apply below_alloc | apply pw_below_drewN | apply below_drew1 | refine below_set ?_ GE888.out) | exact HB.out)))); have n1_ := Aside0.mk (blk_below (g := gb888) (o := .cells #[.slice A0_0 l0_0.length c0_0, .slice A0_1 l0_1.length c0_1] 34 (0, 0)) (by (with_reducible repeat (first | refine blk_drewN ?_ _ | refine blk_drew ?_ | refine blk_alloc ?_ _)); exact BK888.out) hb); have n2_ := Aside0.mk (below_step (by repeat (first | (with_reducible first | exact HB.out | apply below_alloc | apply pw_below_drewN | apply below_drew1 | refine below_set ?_ GE888.out) | exact HB.out)) hb); clear BK888; clear HB; have HO892 := n0_; have BK888 := n1_; have HB := n2_; clear n0_ n1_ n2_; clear hb ho10))
      go_loopg [29] k (fun kq v29 w' => ∃ (x6_1 : List Int) (x29_1 : Int), v29 = .int .i64 x29_1 ∧ Aside0 (impl_FixedPoints.l0 kq l1 x6_1 l1 (l1.length : Int) x29_1 l0_0 l0_1 = some (r1, r2)) ∧ Aside0 (kq ≤ k) ∧ Aside0 (Kd.R (Kd.int .i64) 3 w' w.heap.size (fun _ => True) v891 x6_1) ∧ Aside0 (w'.heap[gb888]? = some (.cells #[(.slice A0_0 l0_0.length c0_0), (.slice A0_1 l0_1.length c0_1)] 34 (0, 0))) ∧ Aside0 (Below w.heap.size w w'))
      case atStart => exact ⟨(y890), (0), (by first | rfl | (simp; done) | (simp [*]; done)), H', ⟨Nat.le_refl _⟩, ⟨by (with_reducible repeat (first | apply Kd.R_alloc | apply Kd.R_drewN | apply Kd.R_drew)); exact HO892.out⟩, ⟨by (with_reducible repeat (first | refine blk_drewN ?_ _ | refine blk_drew ?_ | refine blk_alloc ?_ _)); exact BK888.out⟩, ⟨by repeat (first | (with_reducible first | exact HB.out | apply below_alloc | apply pw_below_drewN | apply below_drew1 | refine below_set ?_ GE888.out) | exact HB.out)⟩⟩
      case round =>
        clear H'
        try clear c1
        try clear c2
        try clear p2
        try clear c4
        try clear c5
        try clear c5b0
        try clear c5b1
        try clear hcz7_0
        try clear hcz7_1
        try clear hfz7_0
        try clear hfz7_1
        obtain ⟨x6_1, x29_1, rfl, HA, HK1, HO_6, BK888, HB⟩ := hrel
        cases gk with
        | zero => exact absurd HA.out (by simp [impl_FixedPoints.l0])
        | succ k1 =>
          have H := HA.out
          clear HA
          simp only [impl_FixedPoints.l0] at H
          by_cases c11 : x29_1 < (l1.length : Int)
          · rw [if_pos c11] at H
            have c11b0 : decide (x29_1 < (l1.length : Int)) = true := decide_eq_true c11
            clear c11
            by_cases c12 : 0 ≤ x29_1
            · rw [if_pos c12] at H
              have c12b0 : decide (0 ≤ x29_1) = true := decide_eq_true c12
              clear c12
              by_cases c13 : x29_1 < (l1.length : Int)
              · rw [if_pos c13] at H
                have c13b0 : decide (x29_1 < (l1.length : Int)) = true := decide_eq_true c13
                clear c13
                have HC14 := Aside0.mk H
                clear H
                have p893 : 0 ≤ (x29_1 : Int) := of_decide_eq_true (by first | (with_reducible assumption) | assumption)
                have q893 : x29_1 < (l1.length : Int) := of_decide_eq_true (by first | (with_reducible assumption) | assumption)
                obtain ⟨ad893, e893, hx893_0⟩ := Kd.at_int HR1.out x29_1 p893 q893
                cases e893
                (try replace hx893_0 := (HB.out.cell (World.block_lt_of_cell? w _ hx893_0)).trans hx893_0)
                replace p893 := eq_true p893
                replace q893 := eq_true q893
                go_upto_if 36 with (fail)
                go_cut [] (fun wc => ∃ (kq : Nat) (x6_13 : List Int), Aside0 (impl_FixedPoints.j1 kq l1 x6_13 x29_1 (rd l1 x29_1) l1 (l1.length : Int) x29_1 l0_0 l0_1 = some (r1, r2)) ∧ Aside0 (kq ≤ k1) ∧ Aside0 (Kd.R (Kd.int .i64) 3 wc w.heap.size (fun _ => True) v891 x6_13) ∧ Aside0 (wc.heap[gb888]? = some (.cells #[(.slice A0_0 l0_0.length c0_0), (.slice A0_1 l0_1.length c0_1)] 34 (0, 0))) ∧ Aside0 (Below w.heap.size w wc))
                case first =>
                  have H := HC14.out
                  clear HC14
                  by_cases c15 : (rd l1 x29_1) = x29_1
                  · rw [if_pos c15] at H
                    have c15b0 : ((rd l1 x29_1) == x29_1) = true := beq_iff_eq.mpr c15
                    have c15b1 : ((rd l1 x29_1) != x29_1) = false := bne_eq_false_iff_eq.mpr c15
                    clear c15
                    (first | rw [c15b0] | (simp only [i64_w, i32_w]; rw [c15b0]) | skip)
                    by_cases c16 : 0 < (x6_1.length : Int)
                    · rw [if_pos c16] at H
                      have c16b0 : decide (0 < (x6_1.length : Int)) = true := decide_eq_true c16
                      have c16b1 : decide (0 < x6_1.length) = true := decide_eq_true (by omega)
                      clear c16
                      obtain ⟨y895, hy895⟩ : ∃ y_ : List Int, y_ = (x6_1.set (0 : Int).toNat (wrap64 ((rd x6_1 0) + 1))) := ⟨_, rfl⟩
                      replace H : (impl_FixedPoints.j1 k1 l1 y895 x29_1 (rd l1 x29_1) l1 (l1.length : Int) x29_1 l0_0 l0_1) = some (r1, r2) := by first | (rw [hy895]; with_reducible exact H) | (have H2_ := (Option.bind_some _ _).symm.trans H; rw [hy895]; with_reducible exact H2_) | (have H2_ := (Option.bind_some _ _).symm.trans H; with_reducible exact H2_) | with_reducible exact H | (rw [hy895]; exact H) | exact H
                      have Ny895 := Aside0.mk hy895
                      clear hy895
                      have H' := Aside0.mk H
                      clear H
                      obtain ⟨Ao18, co18, eo18⟩ := Kd.R_slice HO_6.out
                      subst eo18
                      have p894 : 0 ≤ (0 : Int) := (by omega)
                      have q894 : 0 < (x6_1.length : Int) := of_decide_eq_true (by first | (with_reducible assumption) | assumption)
                      obtain ⟨ad894, e894, hx894_0⟩ := Kd.at_int (Kd.R_reads' HO_6.out).2.2 0 p894 q894
                      cases e894
                      have qi894 : (0 < x6_1.length) = True := eq_true (by omega)
                      (try rw [show ((0 : Int)).toNat = 0 from rfl] at hx894_0)
                      (try rw [Addr.add_zero'] at hx894_0)
                      replace p894 := eq_true p894
                      replace q894 := eq_true q894
                      have p17 : 0 ≤ (0 : Int) := (by omega)
                      have q17 : (0 : Int) < ((x6_1.length : Int) : Int) := of_decide_eq_true (by first | (with_reducible assumption) | assumption)
                      have qi17 : (0 < x6_1.length) = True := eq_true (by omega)
                      obtain ⟨go17, co17, eo17, gb17, gl17, cl17, HG17⟩ := Kd.R_form HO_6.out (by omega)
                      (first | cases eo17 | (injection eo17 with ea_ en_ ec_; (first | subst ea_ | (injection ea_ with ea_; subst ea_)); subst ec_; clear en_))
                      have GB17 := Aside0.mk gb17
                      have GG17 := Aside0.mk HG17
                      clear gb17 gl17 HG17
                      (first | simp only [add_plain] at hx894_0 | skip)
                      obtain ⟨hx17_0, hf17_0⟩ := Kd.R_celln 0 HO_6.out (0 : Int) p17 q17
                      (try rw [show ((0 : Int)).toNat = 0 from rfl] at hx17_0)
                      (try simp only [Nat.reduceMul, Nat.zero_mul, Nat.zero_add, Nat.reduceAdd] at hx17_0)
                      (try rw [show ((0 : Int)).toNat = 0 from rfl] at hf17_0)
                      (try simp only [Nat.reduceMul, Nat.zero_mul, Nat.zero_add, Nat.reduceAdd] at hf17_0)
                      replace p17 := eq_true p17
                      replace q17 := eq_true q17
                      have HP19 := Kd.R_putg HO_6.out (0 : Int) (wrap64 ((rd x6_1 0) + 1))
                      go_wp2_with (first | ((with_reducible refine gate_store (t := 3) (p := 41) rfl ?_); refine store_event (t := 3) (p := 41) (v := ?vo_w20) (w1 := (wr.setCell ⟨go17, (0 : Int).toNat, none⟩ (.int .i64 (wrap64 ((rd x6_1 0) + 1))))) ?hg ?ho ?hn ?hr ?_; (case ho => rfl); (case hg => rfl); (case hn => rfl); (case hr => first | (go_simp; done) | (go_simp; rfl)); intro w20 hw; have hg : wr.grownBy w20 (some go17) := (by rw [hw]; exact HP19.2); have hp_ : Kd.R (Kd.int .i64) 3 w20 w.heap.size (fun _ => True) (.slice (some ⟨go17, 0, none⟩) x6_1.length co18) y895 := (by rw [hw, Ny895.out]; exact HP19.1); clear HP19; have n0_ := Aside0.mk (hp_); have n1_ := Aside0.mk (blk_grown (g := gb888) (o := .cells #[.slice A0_0 l0_0.length c0_0, .slice A0_1 l0_1.length c0_1] 34 (0, 0)) (by (with_reducible repeat (first | refine blk_drewN ?_ _ | refine blk_drew ?_ | refine blk_alloc ?_ _)); exact BK888.out) hg (Kd.R_ne HO_6.out BK888.out (by decide))); have n2_ := Aside0.mk ((by rw [hw]; exact below_set (HB.out) GB17.out : Below w.heap.size w w20)); clear HO_6; clear BK888; clear HB; have HO_6 := n0_; have BK888 := n1_; have HB := n2_; clear n0_ n1_ n2_; clear hg hw hp_))
                      go_meet
                      case rel => exact ⟨_, (y895), H', ⟨by have := HK1.out; first | omega | exact Nat.le_refl _⟩, ⟨by (with_reducible repeat (first | apply Kd.R_alloc | apply Kd.R_drewN | apply Kd.R_drew)); exact HO_6.out⟩, ⟨by (with_reducible repeat (first | refine blk_drewN ?_ _ | refine blk_drew ?_ | refine blk_alloc ?_ _)); exact BK888.out⟩, ⟨by repeat (first | (with_reducible first | exact HB.out | apply below_alloc | apply pw_below_drewN | apply below_drew1 | refine below_set ?_ GE888.out) | exact HB.out)⟩⟩
                    · rw [if_neg c16] at H
                      exact absurd H (by simp)
                  · rw [if_neg c15] at H
                    have c15b0 : ((rd l1 x29_1) == x29_1) = false := beq_eq_false_iff_ne.mpr c15
                    have c15b1 : ((rd l1 x29_1) != x29_1) = true := bne_iff_ne.mpr c15
                    (first | rw [c15b0] | (simp only [i64_w, i32_w]; rw [c15b0]) | skip)
                    have H' := Aside0.mk H
                    clear H
                    go_wp2
                    go_meet
                    case rel => exact ⟨_, (x6_1), H', ⟨by have := HK1.out; first | omega | exact Nat.le_refl _⟩, ⟨by (with_reducible repeat (first | apply Kd.R_alloc | apply Kd.R_drewN | apply Kd.R_drew)); exact HO_6.out⟩, ⟨by (with_reducible repeat (first | refine blk_drewN ?_ _ | refine blk_drew ?_ | refine blk_alloc ?_ _)); exact BK888.out⟩, ⟨by repeat (first | (with_reducible first | exact HB.out | apply below_alloc | apply pw_below_drewN | apply below_drew1 | refine below_set ?_ GE888.out) | exact HB.out)⟩⟩
                case rest =>
                  clear HC14
                  try clear c1
                  try clear p1
                  try clear q1
                  try clear hx1
                  try clear qi1
                  try clear c2
                  try clear p2
                  try clear c4
                  try clear c5
                  try clear c5b0
                  try clear c5b1
                  try clear p6
                  try clear p8
                  try clear q8
                  try clear hx8
                  try clear qi8
                  try clear c11
                  try clear c11b0
                  try clear c12
                  try clear c12b0
                  try clear c13
                  try clear c13b0
                  try clear c15
                  try clear c15b0
                  try clear c15b1
                  try clear c16
                  try clear c16b0
                  try clear c16b1
                  try clear p17
                  try clear q17
                  try clear hx17
                  try clear qi17
                  try clear hf17
                  try clear hcz7_0
                  try clear hcz7_1
                  try clear hfz7_0
                  try clear hfz7_1
                  try clear hx17_0
                  try clear hx893_0
                  try clear hx894_0
                  try clear p17
                  try clear p2
                  try clear p893
                  try clear p894
                  try clear q17
                  try clear q893
                  try clear q894
                  obtain ⟨kq, x6_13, HA, HJ13, HO_6, BK888, HB⟩ := hcut
                  cases kq with
                  | zero => exact absurd HA.out (by simp [impl_FixedPoints.j1])
                  | succ kj13 =>
                    have H := HA.out
                    clear HA
                    simp only [impl_FixedPoints.j1] at H
                    by_cases c21 : 0 ≤ x29_1
                    · rw [if_pos c21] at H
                      have c21b0 : decide (0 ≤ x29_1) = true := decide_eq_true c21
                      clear c21
                      by_cases c22 : x29_1 < (l0_0.length : Int)
                      · rw [if_pos c22] at H
                        have c22b0 : decide (x29_1 < (l0_0.length : Int)) = true := decide_eq_true c22
                        clear c22
                        by_cases c23 : (rd l1 x29_1) = (rd l0_0 x29_1)
                        · rw [if_pos c23] at H
                          have c23b0 : ((rd l1 x29_1) == (rd l0_0 x29_1)) = true := beq_iff_eq.mpr c23
                          have c23b1 : ((rd l1 x29_1) != (rd l0_0 x29_1)) = false := bne_eq_false_iff_eq.mpr c23
                          clear c23
                          by_cases c24 : 1 < (x6_13.length : Int)
                          · rw [if_pos c24] at H
                            have c24b0 : decide (1 < (x6_13.length : Int)) = true := decide_eq_true c24
                            have c24b1 : decide (1 < x6_13.length) = true := decide_eq_true (by omega)
                            clear c24
                            obtain ⟨y898, hy898⟩ : ∃ y_ : List Int, y_ = (x6_13.set (1 : Int).toNat (wrap64 ((rd x6_13 1) + 1))) := ⟨_, rfl⟩
                            replace H : (if x29_1 < (l0_1.length : Int) then (if (rd l1 x29_1) = (rd l0_1 x29_1) then (if 2 < (x6_13.length : Int) then (impl_FixedPoints.l0 kj13 l1 (y898.set (2 : Int).toNat (wrap64 ((rd y898 2) + 1))) l1 (l1.length : Int) (wrap64 (x29_1 + 1)) l0_0 l0_1) else (none)) else (impl_FixedPoints.l0 kj13 l1 y898 l1 (l1.length : Int) (wrap64 (x29_1 + 1)) l0_0 l0_1)) else (none)) = some (r1, r2) := by first | (rw [hy898]; with_reducible exact H) | (have H2_ := (Option.bind_some _ _).symm.trans H; rw [hy898]; with_reducible exact H2_) | (have H2_ := (Option.bind_some _ _).symm.trans H; with_reducible exact H2_) | with_reducible exact H | (rw [hy898]; exact H) | exact H
                            have Ny898 := Aside0.mk hy898
                            clear hy898
                            by_cases c26 : x29_1 < (l0_1.length : Int)
                            · rw [if_pos c26] at H
                              have c26b0 : decide (x29_1 < (l0_1.length : Int)) = true := decide_eq_true c26
                              clear c26
                              by_cases c27 : (rd l1 x29_1) = (rd l0_1 x29_1)
                              · rw [if_pos c27] at H
                                have c27b0 : ((rd l1 x29_1) == (rd l0_1 x29_1)) = true := beq_iff_eq.mpr c27
                                have c27b1 : ((rd l1 x29_1) != (rd l0_1 x29_1)) = false := bne_eq_false_iff_eq.mpr c27
                                clear c27
                                by_cases c28 : 2 < (x6_13.length : Int)
                                · rw [if_pos c28] at H
                                  have c28b0 : decide (2 < (x6_13.length : Int)) = true := decide_eq_true c28
                                  have c28b1 : decide (2 < x6_13.length) = true := decide_eq_true (by omega)
                                  clear c28
                                  obtain ⟨y901, hy901⟩ : ∃ y_ : List Int, y_ = (y898.set (2 : Int).toNat (wrap64 ((rd y898 2) + 1))) := ⟨_, rfl⟩
                                  replace H : (impl_FixedPoints.l0 kj13 l1 y901 l1 (l1.length : Int) (wrap64 (x29_1 + 1)) l0_0 l0_1) = some (r1, r2) := by first | (rw [hy901]; with_reducible exact H) | (have H2_ := (Option.bind_some _ _).symm.trans H; rw [hy901]; with_reducible exact H2_) | (have H2_ := (Option.bind_some _ _).symm.trans H; with_reducible exact H2_) | with_reducible exact H | (rw [hy901]; exact H) | exact H
                                  have Ny901 := Aside0.mk hy901
                                  clear hy901
                                  have H' := Aside0.mk H
                                  clear H
                                  have hcz30_0 : wc.cell? ⟨gb888, 0, none⟩ = some (.slice A0_0 l0_0.length c0_0) := (blk_cell BK888.out 0).trans rfl
                                  have hcz30_1 : wc.cell? ⟨gb888, 1, none⟩ = some (.slice A0_1 l0_1.length c0_1) := (blk_cell BK888.out 1).trans rfl
                                  have hfz30_0 := blk_frozen BK888.out 0
                                  have hfz30_1 := blk_frozen BK888.out 1
                                  have p896 : 0 ≤ (x29_1 : Int) := of_decide_eq_true (by first | (with_reducible assumption) | assumption)
                                  have q896 : x29_1 < (l0_0.length : Int) := of_decide_eq_true (by first | (with_reducible assumption) | assumption)
                                  obtain ⟨ad896, e896, hx896_0⟩ := Kd.at_int HR0_0.out x29_1 p896 q896
                                  cases e896
                                  (try replace hx896_0 := (HB.out.cell (World.block_lt_of_cell? w _ hx896_0)).trans hx896_0)
                                  replace p896 := eq_true p896
                                  replace q896 := eq_true q896
                                  obtain ⟨Ao31, co31, eo31⟩ := Kd.R_slice HO_6.out
                                  subst eo31
                                  have p897 : 0 ≤ (1 : Int) := (by omega)
                                  have q897 : 1 < (x6_13.length : Int) := of_decide_eq_true (by first | (with_reducible assumption) | assumption)
                                  obtain ⟨ad897, e897, hx897_0⟩ := Kd.at_int (Kd.R_reads' HO_6.out).2.2 1 p897 q897
                                  cases e897
                                  (try simp only [show (1 : Int).toNat = 1 from rfl, Nat.reduceMul, Nat.reduceEqDiff, Go.Addr.add, ↓reduceIte] at hx897_0)
                                  have qi897 : (1 < x6_13.length) = True := eq_true (by omega)
                                  (try rw [show ((1 : Int)).toNat = 1 from rfl] at hx897_0)
                                  replace p897 := eq_true p897
                                  replace q897 := eq_true q897
                                  have p25 : 0 ≤ (1 : Int) := (by omega)
                                  have q25 : (1 : Int) < ((x6_13.length : Int) : Int) := of_decide_eq_true (by first | (with_reducible assumption) | assumption)
                                  have qi25 : (1 < x6_13.length) = True := eq_true (by omega)
                                  obtain ⟨go25, co25, eo25, gb25, gl25, cl25, HG25⟩ := Kd.R_form HO_6.out (by omega)
                                  (first | cases eo25 | (injection eo25 with ea_ en_ ec_; (first | subst ea_ | (injection ea_ with ea_; subst ea_)); subst ec_; clear en_))
                                  have GB25 := Aside0.mk gb25
                                  have GG25 := Aside0.mk HG25
                                  clear gb25 gl25 HG25
                                  (first | simp only [add_plain] at hx897_0 | skip)
                                  obtain ⟨hx25_0, hf25_0⟩ := Kd.R_celln 0 HO_6.out (1 : Int) p25 q25
                                  (try rw [show ((1 : Int)).toNat = 1 from rfl] at hx25_0)
                                  (try simp only [Nat.reduceMul, Nat.zero_mul, Nat.zero_add, Nat.reduceAdd] at hx25_0)
                                  (try rw [show ((1 : Int)).toNat = 1 from rfl] at hf25_0)
                                  (try simp only [Nat.reduceMul, Nat.zero_mul, Nat.zero_add, Nat.reduceAdd] at hf25_0)
                                  replace p25 := eq_true p25
                                  replace q25 := eq_true q25
                                  have HP32 := Kd.R_putg HO_6.out (1 : Int) (wrap64 ((rd x6_13 1) + 1))
                                  go_wp2_with (first | ((with_reducible refine gate_store (t := 3) (p := 53) rfl ?_); refine store_event (t := 3) (p := 53) (v := ?vo_w33) (w1 := (wc.setCell ⟨go25, (1 : Int).toNat, none⟩ (.int .i64 (wrap64 ((rd x6_13 1) + 1))))) ?hg ?ho ?hn ?hr ?_; (case ho => rfl); (case hg => rfl); (case hn => rfl); (case hr => first | (go_simp; done) | (go_simp; rfl)); intro w33 hw; have hg : wc.grownBy w33 (some go25) := (by rw [hw]; exact HP32.2); have hp_ : Kd.R (Kd.int .i64) 3 w33 w.heap.size (fun _ => True) (.slice (some ⟨go25, 0, none⟩) x6_13.length co31) y898 := (by rw [hw, Ny898.out]; exact HP32.1); clear HP32; have n0_ := Aside0.mk (hp_); have n1_ := Aside0.mk (blk_grown (g := gb888) (o := .cells #[.slice (some ad896) l0_0.length c0_0, .slice A0_1 l0_1.length c0_1] 34 (0, 0)) (by (with_reducible repeat (first | refine blk_drewN ?_ _ | refine blk_drew ?_ | refine blk_alloc ?_ _)); exact BK888.out) hg (Kd.R_ne HO_6.out BK888.out (by decide))); have n2_ := Aside0.mk ((by rw [hw]; exact below_set (HB.out) GB25.out : Below w.heap.size w w33)); clear HO_6; clear BK888; clear HB; have HO_6 := n0_; have BK888 := n1_; have HB := n2_; clear n0_ n1_ n2_; clear hg hw hp_; have hcz34_0 : w33.cell? ⟨gb888, 0, none⟩ = some (.slice (some ad896) l0_0.length c0_0) := (blk_cell BK888.out 0).trans rfl; have hcz34_1 : w33.cell? ⟨gb888, 1, none⟩ = some (.slice A0_1 l0_1.length c0_1) := (blk_cell BK888.out 1).trans rfl; have hfz34_0 := blk_frozen BK888.out 0; have hfz34_1 := blk_frozen BK888.out 1; have p899 : 0 ≤ (x29_1 : Int) := of_decide_eq_true (by first | (with_reducible assumption) | assumption); have q899 : x29_1 < (l0_1.length : Int) := of_decide_eq_true (by first | (with_reducible assumption) | assumption); obtain ⟨ad899, e899, hx899_0⟩ := Kd.at_int HR0_1.out x29_1 p899 q899; cases e899; replace hx899_0 := (HB.out.cell (World.block_lt_of_cell? w _ hx899_0)).trans hx899_0; replace p899 := eq_true p899; replace q899 := eq_true q899; have p900 : 0 ≤ (2 : Int) := (by omega); have q900 : 2 < (y898.length : Int) := (by have h_ : (2 : Int) < ((x6_13.length : Int) : Int) := of_decide_eq_true (by first | (with_reducible assumption) | assumption); first | (have e_ := (Kd.R_reads' HO_6.out).1; omega) | simpa only [Ny898.out, List.length_set] using h_); have ql900 : ((2 : Int) < ((x6_13.length : Int) : Int)) = True := eq_true (of_decide_eq_true (by first | (with_reducible assumption) | assumption)); (try have qn900 : (2 < x6_13.length) = True := eq_true (by have h_ : (2 : Int) < ((x6_13.length : Int) : Int) := of_decide_eq_true (by first | (with_reducible assumption) | assumption); omega)); obtain ⟨ad900, e900, hx900_0⟩ := Kd.at_int (Kd.R_reads' HO_6.out).2.2 2 p900 q900; obtain rfl : (⟨go25, 0, none⟩ : Addr) = ad900 := (by injection e900); (first | simp only [add_plain] at hx900_0 | simp only [add_at] at hx900_0 | simp only [Addr.add, Nat.zero_add] at hx900_0 | skip); have qi900 : (2 < y898.length) = True := eq_true (by omega); (try rw [show ((2 : Int)).toNat = 2 from rfl] at hx900_0); replace p900 := eq_true p900; replace q900 := eq_true q900; have p29 : 0 ≤ (2 : Int) := (by omega); have q29 : (2 : Int) < ((x6_13.length : Int) : Int) := of_decide_eq_true (by first | (with_reducible assumption) | assumption); have qi29 : (2 < x6_13.length) = True := eq_true (by omega); obtain ⟨hx29_0, hf29_0⟩ := Kd.R_celln 0 HO_6.out (2 : Int) p29 q29; (try rw [show ((2 : Int)).toNat = 2 from rfl] at hx29_0); (try simp only [Nat.reduceMul, Nat.zero_mul, Nat.zero_add, Nat.reduceAdd] at hx29_0); (try rw [show ((2 : Int)).toNat = 2 from rfl] at hf29_0); (try simp only [Nat.reduceMul, Nat.zero_mul, Nat.zero_add, Nat.reduceAdd] at hf29_0); replace p29 := eq_true p29; replace q29 := eq_true q29; obtain ⟨hy35_, hz35_⟩ := Kd.R_celln 0 HO_6.out (2 : Int) (by omega) (of_decide_eq_true (by first | (with_reducible assumption) | assumption)); (try simp only [Int.reduceToNat, Int.toNat_zero, Int.toNat_ofNat, Nat.reduceMul, Nat.zero_mul, Nat.zero_add] at hy35_ hz35_); (try rw [show ((2 : Int)).toNat = 2 from rfl] at hy35_); (try rw [show ((2 : Int)).toNat = 2 from rfl] at hz35_); have HP35 := Kd.R_putg HO_6.out (2 : Int) (wrap64 ((rd y898 2) + 1))) | ((with_reducible refine gate_store (t := 3) (p := 65) rfl ?_); refine store_event (t := 3) (p := 65) (v := ?vo_w36) (w1 := (w33.setCell ⟨go25, (2 : Int).toNat, none⟩ (.int .i64 (wrap64 ((rd y898 2) + 1))))) ?hg ?ho ?hn ?hr ?_; (case ho => rfl); (case hg => rfl); (case hn => rfl); (case hr => first | (go_simp; done) | (go_simp; rfl)); intro w36 hw; have hg : w33.grownBy w36 (some go25) := (by rw [hw]; exact HP35.2); have hp_ : Kd.R (Kd.int .i64) 3 w36 w.heap.size (fun _ => True) (.slice (some ⟨go25, 0, none⟩) x6_13.length co31) y901 := (by rw [hw, Ny901.out]; exact HP35.1); clear HP35; have n0_ := Aside0.mk (hp_); have n1_ := Aside0.mk (blk_grown (g := gb888) (o := .cells #[.slice (some ad896) l0_0.length c0_0, .slice (some ad899) l0_1.length c0_1] 34 (0, 0)) (by (with_reducible repeat (first | refine blk_drewN ?_ _ | refine blk_drew ?_ | refine blk_alloc ?_ _)); exact BK888.out) hg (Kd.R_ne HO_6.out BK888.out (by decide))); have n2_ := Aside0.mk ((by rw [hw]; exact below_set (HB.out) GB25.out : Below w.heap.size w w36)); clear HO_6; clear BK888; clear HB; have HO_6 := n0_; have BK888 := n1_; have HB := n2_; clear n0_ n1_ n2_; clear hg hw hp_))
                                  go_roundg kj13
                                  case measure => have := HK1.out; have := HJ13.out; omega
                                  case rel => exact ⟨(y901), (wrap64 (x29_1 + 1)), (by first | rfl | (simp; done) | (simp [*]; done)), H', ⟨by have := HK1.out; have := HJ13.out; omega⟩, ⟨by (with_reducible repeat (first | apply Kd.R_alloc | apply Kd.R_drewN | apply Kd.R_drew)); exact HO_6.out⟩, ⟨by (with_reducible repeat (first | refine blk_drewN ?_ _ | refine blk_drew ?_ | refine blk_alloc ?_ _)); exact BK888.out⟩, ⟨by repeat (first | (with_reducible first | exact HB.out | apply below_alloc | apply pw_below_drewN | apply below_drew1 | refine below_set ?_ GE888.out) | exact HB.out)⟩⟩
                                · rw [if_neg c28] at H
                                  exact absurd H (by simp)
                              · rw [if_neg c27] at H
                                have c27b0 : ((rd l1 x29_1) == (rd l0_1 x29_1)) = false := beq_eq_false_iff_ne.mpr c27
                                have c27b1 : ((rd l1 x29_1) != (rd l0_1 x29_1)) = true := bne_iff_ne.mpr c27
                                have H' := Aside0.mk H
                                clear H
                                have hcz37_0 : wc.cell? ⟨gb888, 0, none⟩ = some (.slice A0_0 l0_0.length c0_0) := (blk_cell BK888.out 0).trans rfl
                                have hcz37_1 : wc.cell? ⟨gb888, 1, none⟩ = some (.slice A0_1 l0_1.length c0_1) := (blk_cell BK888.out 1).trans rfl
                                have hfz37_0 := blk_frozen BK888.out 0
                                have hfz37_1 := blk_frozen BK888.out 1
                                have p896 : 0 ≤ (x29_1 : Int) := of_decide_eq_true (by first | (with_reducible assumption) | assumption)
                                have q896 : x29_1 < (l0_0.length : Int) := of_decide_eq_true (by first | (with_reducible assumption) | assumption)
                                obtain ⟨ad896, e896, hx896_0⟩ := Kd.at_int HR0_0.out x29_1 p896 q896
                                cases e896
                                (try replace hx896_0 := (HB.out.cell (World.block_lt_of_cell? w _ hx896_0)).trans hx896_0)
                                replace p896 := eq_true p896
                                replace q896 := eq_true q896
                                obtain ⟨Ao38, co38, eo38⟩ := Kd.R_slice HO_6.out
                                subst eo38
                                have p897 : 0 ≤ (1 : Int) := (by omega)
                                have q897 : 1 < (x6_13.length : Int) := of_decide_eq_true (by first | (with_reducible assumption) | assumption)
                                obtain ⟨ad897, e897, hx897_0⟩ := Kd.at_int (Kd.R_reads' HO_6.out).2.2 1 p897 q897
                                cases e897
                                (try simp only [show (1 : Int).toNat = 1 from rfl, Nat.reduceMul, Nat.reduceEqDiff, Go.Addr.add, ↓reduceIte] at hx897_0)
                                have qi897 : (1 < x6_13.length) = True := eq_true (by omega)
                                (try rw [show ((1 : Int)).toNat = 1 from rfl] at hx897_0)
                                replace p897 := eq_true p897
                                replace q897 := eq_true q897
                                have p25 : 0 ≤ (1 : Int) := (by omega)
                                have q25 : (1 : Int) < ((x6_13.length : Int) : Int) := of_decide_eq_true (by first | (with_reducible assumption) | assumption)
                                have qi25 : (1 < x6_13.length) = True := eq_true (by omega)
                                obtain ⟨go25, co25, eo25, gb25, gl25, cl25, HG25⟩ := Kd.R_form HO_6.out (by omega)
                                (first | cases eo25 | (injection eo25 with ea_ en_ ec_; (first | subst ea_ | (injection ea_ with ea_; subst ea_)); subst ec_; clear en_))
                                have GB25 := Aside0.mk gb25
                                have GG25 := Aside0.mk HG25
                                clear gb25 gl25 HG25
                                (first | simp only [add_plain] at hx897_0 | skip)
                                obtain ⟨hx25_0, hf25_0⟩ := Kd.R_celln 0 HO_6.out (1 : Int) p25 q25
                                (try rw [show ((1 : Int)).toNat = 1 from rfl] at hx25_0)
                                (try simp only [Nat.reduceMul, Nat.zero_mul, Nat.zero_add, Nat.reduceAdd] at hx25_0)
                                (try rw [show ((1 : Int)).toNat = 1 from rfl] at hf25_0)
                                (try simp only [Nat.reduceMul, Nat.zero_mul, Nat.zero_add, Nat.reduceAdd] at hf25_0)
                                replace p25 := eq_true p25
                                replace q25 := eq_true q25
                                have HP39 := Kd.R_putg HO_6.out (1 : Int) (wrap64 ((rd x6_13 1) + 1))
                                go_wp2_with (first | ((with_reducible refine gate_store (t := 3) (p := 53) rfl ?_); refine store_event (t := 3) (p := 53) (v := ?vo_w40) (w1 := (wc.setCell ⟨go25, (1 : Int).toNat, none⟩ (.int .i64 (wrap64 ((rd x6_13 1) + 1))))) ?hg ?ho ?hn ?hr ?_; (case ho => rfl); (case hg => rfl); (case hn => rfl); (case hr => first | (go_simp; done) | (go_simp; rfl)); intro w40 hw; have hg : wc.grownBy w40 (some go25) := (by rw [hw]; exact HP39.2); have hp_ : Kd.R (Kd.int .i64) 3 w40 w.heap.size (fun _ => True) (.slice (some ⟨go25, 0, none⟩) x6_13.length co38) y898 := (by rw [hw, Ny898.out]; exact HP39.1); clear HP39; have n0_ := Aside0.mk (hp_); have n1_ := Aside0.mk (blk_grown (g := gb888) (o := .cells #[.slice (some ad896) l0_0.length c0_0, .slice A0_1 l0_1.length c0_1] 34 (0, 0)) (by (with_reducible repeat (first | refine blk_drewN ?_ _ | refine blk_drew ?_ | refine blk_alloc ?_ _)); exact BK888.out) hg (Kd.R_ne HO_6.out BK888.out (by decide))); have n2_ := Aside0.mk ((by rw [hw]; exact below_set (HB.out) GB25.out : Below w.heap.size w w40)); clear HO_6; clear BK888; clear HB; have HO_6 := n0_; have BK888 := n1_; have HB := n2_; clear n0_ n1_ n2_; clear hg hw hp_; have hcz41_0 : w40.cell? ⟨gb888, 0, none⟩ = some (.slice (some ad896) l0_0.length c0_0) := (blk_cell BK888.out 0).trans rfl; have hcz41_1 : w40.cell? ⟨gb888, 1, none⟩ = some (.slice A0_1 l0_1.length c0_1) := (blk_cell BK888.out 1).trans rfl; have hfz41_0 := blk_frozen BK888.out 0; have hfz41_1 := blk_frozen BK888.out 1; have p899 : 0 ≤ (x29_1 : Int) := of_decide_eq_true (by first | (with_reducible assumption) | assumption); have q899 : x29_1 < (l0_1.length : Int) := of_decide_eq_true (by first | (with_reducible assumption) | assumption); obtain ⟨ad899, e899, hx899_0⟩ := Kd.at_int HR0_1.out x29_1 p899 q899; cases e899; replace hx899_0 := (HB.out.cell (World.block_lt_of_cell? w _ hx899_0)).trans hx899_0; replace p899 := eq_true p899; replace q899 := eq_true q899))
                                go_roundg kj13
                                case measure => have := HK1.out; have := HJ13.out; omega
                                case rel => exact ⟨(y898), (wrap64 (x29_1 + 1)), (by first | rfl | (simp; done) | (simp [*]; done)), H', ⟨by have := HK1.out; have := HJ13.out; omega⟩, ⟨by (with_reducible repeat (first | apply Kd.R_alloc | apply Kd.R_drewN | apply Kd.R_drew)); exact HO_6.out⟩, ⟨by (with_reducible repeat (first | refine blk_drewN ?_ _ | refine blk_drew ?_ | refine blk_alloc ?_ _)); exact BK888.out⟩, ⟨by repeat (first | (with_reducible first | exact HB.out | apply below_alloc | apply pw_below_drewN | apply below_drew1 | refine below_set ?_ GE888.out) | exact HB.out)⟩⟩
                            · rw [if_neg c26] at H
                              exact absurd H (by simp)
                          · rw [if_neg c24] at H
                            exact absurd H (by simp)
                        · rw [if_neg c23] at H
                          have c23b0 : ((rd l1 x29_1) == (rd l0_0 x29_1)) = false := beq_eq_false_iff_ne.mpr c23
                          have c23b1 : ((rd l1 x29_1) != (rd l0_0 x29_1)) = true := bne_iff_ne.mpr c23
                          by_cases c42 : x29_1 < (l0_1.length : Int)
                          · rw [if_pos c42] at H
                            have c42b0 : decide (x29_1 < (l0_1.length : Int)) = true := decide_eq_true c42
                            clear c42
                            by_cases c43 : (rd l1 x29_1) = (rd l0_1 x29_1)
                            · rw [if_pos c43] at H
                              have c43b0 : ((rd l1 x29_1) == (rd l0_1 x29_1)) = true := beq_iff_eq.mpr c43
                              have c43b1 : ((rd l1 x29_1) != (rd l0_1 x29_1)) = false := bne_eq_false_iff_eq.mpr c43
                              clear c43
                              by_cases c44 : 2 < (x6_13.length : Int)
                              · rw [if_pos c44] at H
                                have c44b0 : decide (2 < (x6_13.length : Int)) = true := decide_eq_true c44
                                have c44b1 : decide (2 < x6_13.length) = true := decide_eq_true (by omega)
                                clear c44
                                obtain ⟨y904, hy904⟩ : ∃ y_ : List Int, y_ = (x6_13.set (2 : Int).toNat (wrap64 ((rd x6_13 2) + 1))) := ⟨_, rfl⟩
                                replace H : (impl_FixedPoints.l0 kj13 l1 y904 l1 (l1.length : Int) (wrap64 (x29_1 + 1)) l0_0 l0_1) = some (r1, r2) := by first | (rw [hy904]; with_reducible exact H) | (have H2_ := (Option.bind_some _ _).symm.trans H; rw [hy904]; with_reducible exact H2_) | (have H2_ := (Option.bind_some _ _).symm.trans H; with_reducible exact H2_) | with_reducible exact H | (rw [hy904]; exact H) | exact H
                                have Ny904 := Aside0.mk hy904
                                clear hy904
                                have H' := Aside0.mk H
                                clear H
                                have hcz46_0 : wc.cell? ⟨gb888, 0, none⟩ = some (.slice A0_0 l0_0.length c0_0) := (blk_cell BK888.out 0).trans rfl
                                have hcz46_1 : wc.cell? ⟨gb888, 1, none⟩ = some (.slice A0_1 l0_1.length c0_1) := (blk_cell BK888.out 1).trans rfl
                                have hfz46_0 := blk_frozen BK888.out 0
                                have hfz46_1 := blk_frozen BK888.out 1
                                have p896 : 0 ≤ (x29_1 : Int) := of_decide_eq_true (by first | (with_reducible assumption) | assumption)
                                have q896 : x29_1 < (l0_0.length : Int) := of_decide_eq_true (by first | (with_reducible assumption) | assumption)
                                obtain ⟨ad896, e896, hx896_0⟩ := Kd.at_int HR0_0.out x29_1 p896 q896
                                cases e896
                                (try replace hx896_0 := (HB.out.cell (World.block_lt_of_cell? w _ hx896_0)).trans hx896_0)
                                replace p896 := eq_true p896
                                replace q896 := eq_true q896
                                have p902 : 0 ≤ (x29_1 : Int) := of_decide_eq_true (by first | (with_reducible assumption) | assumption)
                                have q902 : x29_1 < (l0_1.length : Int) := of_decide_eq_true (by first | (with_reducible assumption) | assumption)
                                obtain ⟨ad902, e902, hx902_0⟩ := Kd.at_int HR0_1.out x29_1 p902 q902
                                cases e902
                                (try replace hx902_0 := (HB.out.cell (World.block_lt_of_cell? w _ hx902_0)).trans hx902_0)
                                replace p902 := eq_true p902
                                replace q902 := eq_true q902
                                obtain ⟨Ao47, co47, eo47⟩ := Kd.R_slice HO_6.out
                                subst eo47
                                have p903 : 0 ≤ (2 : Int) := (by omega)
                                have q903 : 2 < (x6_13.length : Int) := of_decide_eq_true (by first | (with_reducible assumption) | assumption)
                                obtain ⟨ad903, e903, hx903_0⟩ := Kd.at_int (Kd.R_reads' HO_6.out).2.2 2 p903 q903
                                cases e903
                                (try simp only [show (2 : Int).toNat = 2 from rfl, Nat.reduceMul, Nat.reduceEqDiff, Go.Addr.add, ↓reduceIte] at hx903_0)
                                have qi903 : (2 < x6_13.length) = True := eq_true (by omega)
                                (try rw [show ((2 : Int)).toNat = 2 from rfl] at hx903_0)
                                replace p903 := eq_true p903
                                replace q903 := eq_true q903
                                have p45 : 0 ≤ (2 : Int) := (by omega)
                                have q45 : (2 : Int) < ((x6_13.length : Int) : Int) := of_decide_eq_true (by first | (with_reducible assumption) | assumption)
                                have qi45 : (2 < x6_13.length) = True := eq_true (by omega)
                                obtain ⟨go45, co45, eo45, gb45, gl45, cl45, HG45⟩ := Kd.R_form HO_6.out (by omega)
                                (first | cases eo45 | (injection eo45 with ea_ en_ ec_; (first | subst ea_ | (injection ea_ with ea_; subst ea_)); subst ec_; clear en_))
                                have GB45 := Aside0.mk gb45
                                have GG45 := Aside0.mk HG45
                                clear gb45 gl45 HG45
                                (first | simp only [add_plain] at hx903_0 | skip)
                                obtain ⟨hx45_0, hf45_0⟩ := Kd.R_celln 0 HO_6.out (2 : Int) p45 q45
                                (try rw [show ((2 : Int)).toNat = 2 from rfl] at hx45_0)
                                (try simp only [Nat.reduceMul, Nat.zero_mul, Nat.zero_add, Nat.reduceAdd] at hx45_0)
                                (try rw [show ((2 : Int)).toNat = 2 from rfl] at hf45_0)
                                (try simp only [Nat.reduceMul, Nat.zero_mul, Nat.zero_add, Nat.reduceAdd] at hf45_0)
                                replace p45 := eq_true p45
                                replace q45 := eq_true q45
                                have HP48 := Kd.R_putg HO_6.out (2 : Int) (wrap64 ((rd x6_13 2) + 1))
                                go_wp2_with (first | ((with_reducible refine gate_store (t := 3) (p := 65) rfl ?_); refine store_event (t := 3) (p := 65) (v := ?vo_w49) (w1 := (wc.setCell ⟨go45, (2 : Int).toNat, none⟩ (.int .i64 (wrap64 ((rd x6_13 2) + 1))))) ?hg ?ho ?hn ?hr ?_; (case ho => rfl); (case hg => rfl); (case hn => rfl); (case hr => first | (go_simp; done) | (go_simp; rfl)); intro w49 hw; have hg : wc.grownBy w49 (some go45) := (by rw [hw]; exact HP48.2); have hp_ : Kd.R (Kd.int .i64) 3 w49 w.heap.size (fun _ => True) (.slice (some ⟨go45, 0, none⟩) x6_13.length co47) y904 := (by rw [hw, Ny904.out]; exact HP48.1); clear HP48; have n0_ := Aside0.mk (hp_); have n1_ := Aside0.mk (blk_grown (g := gb888) (o := .cells #[.slice (some ad896) l0_0.length c0_0, .slice (some ad902) l0_1.length c0_1] 34 (0, 0)) (by (with_reducible repeat (first | refine blk_drewN ?_ _ | refine blk_drew ?_ | refine blk_alloc ?_ _)); exact BK888.out) hg (Kd.R_ne HO_6.out BK888.out (by decide))); have n2_ := Aside0.mk ((by rw [hw]; exact below_set (HB.out) GB45.out : Below w.heap.size w w49)); clear HO_6; clear BK888; clear HB; have HO_6 := n0_; have BK888 := n1_; have HB := n2_; clear n0_ n1_ n2_; clear hg hw hp_))
                                go_roundg kj13
                                case measure => have := HK1.out; have := HJ13.out; omega
                                case rel => exact ⟨(y904), (wrap64 (x29_1 + 1)), (by first | rfl | (simp; done) | (simp [*]; done)), H', ⟨by have := HK1.out; have := HJ13.out; omega⟩, ⟨by (with_reducible repeat (first | apply Kd.R_alloc | apply Kd.R_drewN | apply Kd.R_drew)); exact HO_6.out⟩, ⟨by (with_reducible repeat (first | refine blk_drewN ?_ _ | refine blk_drew ?_ | refine blk_alloc ?_ _)); exact BK888.out⟩, ⟨by repeat (first | (with_reducible first | exact HB.out | apply below_alloc | apply pw_below_drewN | apply below_drew1 | refine below_set ?_ GE888.out) | exact HB.out)⟩⟩
                              · rw [if_neg c44] at H
                                exact absurd H (by simp)
                            · rw [if_neg c43] at H
                              have c43b0 : ((rd l1 x29_1) == (rd l0_1 x29_1)) = false := beq_eq_false_iff_ne.mpr c43
                              have c43b1 : ((rd l1 x29_1) != (rd l0_1 x29_1)) = true := bne_iff_ne.mpr c43
                              have H' := Aside0.mk H
                              clear H
                              have hcz50_0 : wc.cell? ⟨gb888, 0, none⟩ = some (.slice A0_0 l0_0.length c0_0) := (blk_cell BK888.out 0).trans rfl
                              have hcz50_1 : wc.cell? ⟨gb888, 1, none⟩ = some (.slice A0_1 l0_1.length c0_1) := (blk_cell BK888.out 1).trans rfl
                              have hfz50_0 := blk_frozen BK888.out 0
                              have hfz50_1 := blk_frozen BK888.out 1
                              have p896 : 0 ≤ (x29_1 : Int) := of_decide_eq_true (by first | (with_reducible assumption) | assumption)
                              have q896 : x29_1 < (l0_0.length : Int) := of_decide_eq_true (by first | (with_reducible assumption) | assumption)
                              obtain ⟨ad896, e896, hx896_0⟩ := Kd.at_int HR0_0.out x29_1 p896 q896
                              cases e896
                              (try replace hx896_0 := (HB.out.cell (World.block_lt_of_cell? w _ hx896_0)).trans hx896_0)
                              replace p896 := eq_true p896
                              replace q896 := eq_true q896
                              have p902 : 0 ≤ (x29_1 : Int) := of_decide_eq_true (by first | (with_reducible assumption) | assumption)
                              have q902 : x29_1 < (l0_1.length : Int) := of_decide_eq_true (by first | (with_reducible assumption) | assumption)
                              obtain ⟨ad902, e902, hx902_0⟩ := Kd.at_int HR0_1.out x29_1 p902 q902
                              cases e902
                              (try replace hx902_0 := (HB.out.cell (World.block_lt_of_cell? w _ hx902_0)).trans hx902_0)
                              replace p902 := eq_true p902
                              replace q902 := eq_true q902
                              go_wp2
                              go_roundg kj13
                              case measure => have := HK1.out; have := HJ13.out; omega
                              case rel => exact ⟨(x6_13), (wrap64 (x29_1 + 1)), (by first | rfl | (simp; done) | (simp [*]; done)), H', ⟨by have := HK1.out; have := HJ13.out; omega⟩, ⟨by (with_reducible repeat (first | apply Kd.R_alloc | apply Kd.R_drewN | apply Kd.R_drew)); exact HO_6.out⟩, ⟨by (with_reducible repeat (first | refine blk_drewN ?_ _ | refine blk_drew ?_ | refine blk_alloc ?_ _)); exact BK888.out⟩, ⟨by repeat (first | (with_reducible first | exact HB.out | apply below_alloc | apply pw_below_drewN | apply below_drew1 | refine below_set ?_ GE888.out) | exact HB.out)⟩⟩
                          · rw [if_neg c42] at H
                            exact absurd H (by simp)
                      · rw [if_neg c22] at H
                        exact absurd H (by simp)
                    · rw [if_neg c21] at H
                      exact absurd H (by simp)
              · rw [if_neg c13] at H
                exact absurd H (by simp)
            · rw [if_neg c12] at H
              exact absurd H (by simp)
          · rw [if_neg c11] at H
            have c11b0 : decide (x29_1 < (l1.length : Int)) = false := decide_eq_false c11
            clear c11
            replace H := Option.bind_eq_some_iff.mp H
            obtain ⟨t905, A510, H⟩ := H
            replace H : ((impl_InversePerm.f k1 l0_1).bind fun t908 => (if 0 ≤ (l1.length : Int) then (if ((l1.length : Int) : Int).toNat ≤ 35184372088832 then ((impl_CornersOf.f k1 l0_0 l0_1).bind fun t914 => (impl_FixedPoints.l1 k1 l1 x6_1 t905 t908 (List.replicate ((l1.length : Int) : Int).toNat 0) t914 t914 (t914.length : Int) 0)) else (none)) else (none))) = some (r1, r2) := H
            have A51 := Aside0.mk A510
            clear A510
            replace H := Option.bind_eq_some_iff.mp H
            obtain ⟨t908, A520, H⟩ := H
            replace H : (if 0 ≤ (l1.length : Int) then (if ((l1.length : Int) : Int).toNat ≤ 35184372088832 then ((impl_CornersOf.f k1 l0_0 l0_1).bind fun t914 => (impl_FixedPoints.l1 k1 l1 x6_1 t905 t908 (List.replicate ((l1.length : Int) : Int).toNat 0) t914 t914 (t914.length : Int) 0)) else (none)) else (none)) = some (r1, r2) := H
            have A52 := Aside0.mk A520
            clear A520
            by_cases c53 : 0 ≤ (l1.length : Int)
            · rw [if_pos c53] at H
              have c53b0 := eq_true c53
              have c53b1 : decide (0 ≤ (l1.length : Int)) = true := decide_eq_true c53
              clear c53
              by_cases c54 : ((l1.length : Int) : Int).toNat ≤ 35184372088832
              · rw [if_pos c54] at H
                have c54b0 := eq_true c54
                have c54b1 : decide (((l1.length : Int) : Int).toNat ≤ 35184372088832) = true := decide_eq_true c54
                clear c54
                obtain ⟨y911, hy911⟩ : ∃ y_ : List Int, y_ = (List.replicate ((l1.length : Int) : Int).toNat 0) := ⟨_, rfl⟩
                replace H : ((impl_CornersOf.f k1 l0_0 l0_1).bind fun t914 => (impl_FixedPoints.l1 k1 l1 x6_1 t905 t908 y911 t914 t914 (t914.length : Int) 0)) = some (r1, r2) := by first | (rw [hy911]; with_reducible exact H) | (have H2_ := (Option.bind_some _ _).symm.trans H; rw [hy911]; with_reducible exact H2_) | (have H2_ := (Option.bind_some _ _).symm.trans H; with_reducible exact H2_) | with_reducible exact H | (rw [hy911]; exact H) | exact H
                have Ny911 := Aside0.mk hy911
                clear hy911
                replace H := Option.bind_eq_some_iff.mp H
                obtain ⟨t914, A550, H⟩ := H
                replace H : (impl_FixedPoints.l1 k1 l1 x6_1 t905 t908 y911 t914 t914 (t914.length : Int) 0) = some (r1, r2) := H
                have A55 := Aside0.mk A550
                clear A550
                have H' := Aside0.mk H
                clear H
                have hcz56_0 : wr.cell? ⟨gb888, 0, none⟩ = some (.slice A0_0 l0_0.length c0_0) := (blk_cell BK888.out 0).trans rfl
                have hcz56_1 : wr.cell? ⟨gb888, 1, none⟩ = some (.slice A0_1 l0_1.length c0_1) := (blk_cell BK888.out 1).trans rfl
                have hfz56_0 := blk_frozen BK888.out 0
                have hfz56_1 := blk_frozen BK888.out 1
                go_wp2_with (first | ((with_reducible refine gate_callee (f := 63) rfl ?_); refine goesL_ (some 69) rfl rfl Try.func63 (by kernel_rfl) rfl #[.slice A0_0 l0_0.length c0_0] rfl (by (try simp only [List.map_toArray, List.map_cons, List.map_nil]); first | done | rfl | (simp only [List.length_drop, List.length_take]; rfl)) ?_; (with_reducible refine (impl_InversePerm.calls k1 _ _ l0_0 t905 _ ?side1 ?side2 A51.out).mono ?_); (case side1 => repeat (first | exact (Kd.C_below HR0_0.out HB.out) | (with_reducible refine Kd.C_alloc ?_ _) | (with_reducible refine Kd.C_drewN ?_ _) | (with_reducible refine Kd.C_drew ?_))); (case side2 => exact HC0_0.out); rintro e w57 ⟨v906, rfl, ho0, hb⟩; refine ⟨_, rfl, ?_⟩; have n0_ := Aside0.mk (Kd.R_elder' (by (with_reducible repeat (first | apply Kd.R_alloc | apply Kd.R_drewN | apply Kd.R_drew)); exact HO_6.out) (Kd.R_base ho0) hb); have n1_ := Aside0.mk (Kd.R_lower (Kd.R_new' ho0 (Kd.R_lt (by (with_reducible repeat (first | apply Kd.R_alloc | apply Kd.R_drewN | apply Kd.R_drew)); exact HO_6.out))) (below_size (by repeat (first | (with_reducible first | exact HB.out | apply below_alloc | apply pw_below_drewN | apply below_drew1 | refine below_set ?_ GE888.out) | exact HB.out)))); have n2_ := Aside0.mk (blk_below (g := gb888) (o := .cells #[.slice A0_0 l0_0.length c0_0, .slice A0_1 l0_1.length c0_1] 34 (0, 0)) (by (with_reducible repeat (first | refine blk_drewN ?_ _ | refine blk_drew ?_ | refine blk_alloc ?_ _)); exact BK888.out) hb); have n3_ := Aside0.mk (below_step (by repeat (first | (with_reducible first | exact HB.out | apply below_alloc | apply pw_below_drewN | apply below_drew1 | refine below_set ?_ GE888.out) | exact HB.out)) hb); clear HO_6; clear BK888; clear HB; have HO_6 := n0_; have HO907 := n1_; have BK888 := n2_; have HB := n3_; clear n0_ n1_ n2_ n3_; (try clear hb); (try clear hb2); (try clear hk); (try clear hi); (try clear ho0); have hcz58_0 : w57.cell? ⟨gb888, 0, none⟩ = some (.slice A0_0 l0_0.length c0_0) := (blk_cell BK888.out 0).trans rfl; have hcz58_1 : w57.cell? ⟨gb888, 1, none⟩ = some (.slice A0_1 l0_1.length c0_1) := (blk_cell BK888.out 1).trans rfl; have hfz58_0 := blk_frozen BK888.out 0; have hfz58_1 := blk_frozen BK888.out 1) | ((with_reducible refine gate_callee (f := 63) rfl ?_); refine goesL_ (some 72) rfl rfl Try.func63 (by kernel_rfl) rfl #[.slice A0_1 l0_1.length c0_1] rfl (by (try simp only [List.map_toArray, List.map_cons, List.map_nil]); first | done | rfl | (simp only [List.length_drop, List.length_take]; rfl)) ?_; (with_reducible refine (impl_InversePerm.calls k1 _ _ l0_1 t908 _ ?side1 ?side2 A52.out).mono ?_); (case side1 => repeat (first | exact (Kd.C_below HR0_1.out HB.out) | (with_reducible refine Kd.C_alloc ?_ _) | (with_reducible refine Kd.C_drewN ?_ _) | (with_reducible refine Kd.C_drew ?_))); (case side2 => exact HC0_1.out); rintro e w59 ⟨v909, rfl, ho0, hb⟩; refine ⟨_, rfl, ?_⟩; have n0_ := Aside0.mk (Kd.R_elder' (by (with_reducible repeat (first | apply Kd.R_alloc | apply Kd.R_drewN | apply Kd.R_drew)); exact HO_6.out) (Kd.R_base ho0) hb); have n1_ := Aside0.mk (Kd.R_elder' (by (with_reducible repeat (first | apply Kd.R_alloc | apply Kd.R_drewN | apply Kd.R_drew)); exact HO907.out) (Kd.R_base ho0) hb); have n2_ := Aside0.mk (Kd.R_lower (Kd.R_new' (Kd.R_new' ho0 (Kd.R_lt (by (with_reducible repeat (first | apply Kd.R_alloc | apply Kd.R_drewN | apply Kd.R_drew)); exact HO_6.out))) (Kd.R_lt (by (with_reducible repeat (first | apply Kd.R_alloc | apply Kd.R_drewN | apply Kd.R_drew)); exact HO907.out))) (below_size (by repeat (first | (with_reducible first | exact HB.out | apply below_alloc | apply pw_below_drewN | apply below_drew1 | refine below_set ?_ GE888.out) | exact HB.out)))); have n3_ := Aside0.mk (blk_below (g := gb888) (o := .cells #[.slice A0_0 l0_0.length c0_0, .slice A0_1 l0_1.length c0_1] 34 (0, 0)) (by (with_reducible repeat (first | refine blk_drewN ?_ _ | refine blk_drew ?_ | refine blk_alloc ?_ _)); exact BK888.out) hb); have n4_ := Aside0.mk (below_step (by repeat (first | (with_reducible first | exact HB.out | apply below_alloc | apply pw_below_drewN | apply below_drew1 | refine below_set ?_ GE888.out) | exact HB.out)) hb); clear HO_6; clear HO907; clear BK888; clear HB; have HO_6 := n0_; have HO907 := n1_; have HO910 := n2_; have BK888 := n3_; have HB := n4_; clear n0_ n1_ n2_ n3_ n4_; (try clear hb); (try clear hb2); (try clear hk); (try clear hi); (try clear ho0)) | ((with_reducible refine gate_dst (N := 75) rfl ?_); refine Kd.R_make (Kd.int .i64) _ 3 rfl (N := 75) rfl 29 _ _ rfl (l1.length : Int) rfl rfl Try.underlying29 (.int .i64 0) 8 info3 rfl (by decide) (by omega) 0 (ok := fun _ => True) (okp := fun _ => True) rfl (fun _ hk => hk) trivial (of_decide_eq_true (by first | (with_reducible assumption) | assumption)) (Nat.le_trans (Nat.mul_le_mul_right _ (of_decide_eq_true (by first | (with_reducible assumption) | assumption) : (l1.length : Int).toNat ≤ 35184372088832)) (by omega)) (Below.refl _ _) (Nat.le_refl _) ?_; intro v912 w60 ho61 hb hg_ hnew_; clear hg_ hnew_; (first | rw [← Ny911.out] at ho61 | (simp only [Int.reduceToNat] at ho61; rw [← Ny911.out] at ho61)); have n0_ := Aside0.mk (Kd.R_elder' (by (with_reducible repeat (first | apply Kd.R_alloc | apply Kd.R_drewN | apply Kd.R_drew)); exact HO_6.out) (Kd.R_base ho61) hb); have n1_ := Aside0.mk (Kd.R_elder' (by (with_reducible repeat (first | apply Kd.R_alloc | apply Kd.R_drewN | apply Kd.R_drew)); exact HO907.out) (Kd.R_base ho61) hb); have n2_ := Aside0.mk (Kd.R_elder' (by (with_reducible repeat (first | apply Kd.R_alloc | apply Kd.R_drewN | apply Kd.R_drew)); exact HO910.out) (Kd.R_base ho61) hb); have n3_ := Aside0.mk (Kd.R_lower (Kd.R_new' (Kd.R_new' (Kd.R_new' ho61 (Kd.R_lt (by (with_reducible repeat (first | apply Kd.R_alloc | apply Kd.R_drewN | apply Kd.R_drew)); exact HO_6.out))) (Kd.R_lt (by (with_reducible repeat (first | apply Kd.R_alloc | apply Kd.R_drewN | apply Kd.R_drew)); exact HO907.out))) (Kd.R_lt (by (with_reducible repeat (first | apply Kd.R_alloc | apply Kd.R_drewN | apply Kd.R_drew)); exact HO910.out))) (below_size (by repeat (first | (with_reducible first | exact HB.out | apply below_alloc | apply pw_below_drewN | apply below_drew1 | refine below_set ?_ GE888.out) | exact HB.out)))); have n4_ := Aside0.mk (blk_below (g := gb888) (o := .cells #[.slice A0_0 l0_0.length c0_0, .slice A0_1 l0_1.length c0_1] 34 (0, 0)) (by (with_reducible repeat (first | refine blk_drewN ?_ _ | refine blk_drew ?_ | refine blk_alloc ?_ _)); exact BK888.out) hb); have n5_ := Aside0.mk (below_step (by repeat (first | (with_reducible first | exact HB.out | apply below_alloc | apply pw_below_drewN | apply below_drew1 | refine below_set ?_ GE888.out) | exact HB.out)) hb); clear HO_6; clear HO907; clear HO910; clear BK888; clear HB; have HO_6 := n0_; have HO907 := n1_; have HO910 := n2_; have HO913 := n3_; have BK888 := n4_; have HB := n5_; clear n0_ n1_ n2_ n3_ n4_ n5_; clear hb ho61; have hcz62_0 : w60.cell? ⟨gb888, 0, none⟩ = some (.slice A0_0 l0_0.length c0_0) := (blk_cell BK888.out 0).trans rfl; have hcz62_1 : w60.cell? ⟨gb888, 1, none⟩ = some (.slice A0_1 l0_1.length c0_1) := (blk_cell BK888.out 1).trans rfl; have hfz62_0 := blk_frozen BK888.out 0; have hfz62_1 := blk_frozen BK888.out 1) | ((with_reducible refine gate_callee (f := 86) rfl ?_); refine goesL_ (some 77) rfl rfl Try.func86 (by kernel_rfl) rfl #[.agg #[.slice A0_0 l0_0.length c0_0, .slice A0_1 l0_1.length c0_1]] rfl (by (try simp only [List.map_toArray, List.map_cons, List.map_nil]); first | done | rfl | (simp only [List.length_drop, List.length_take]; rfl)) ?_; (with_reducible refine (impl_CornersOf.calls k1 _ _ l0_0 _ _ l0_1 t914 _ ?side1 ?side2 ?side3 ?side4 A55.out).mono ?_); (case side1 => repeat (first | exact (Kd.C_below HR0_0.out HB.out) | (with_reducible refine Kd.C_alloc ?_ _) | (with_reducible refine Kd.C_drewN ?_ _) | (with_reducible refine Kd.C_drew ?_))); (case side2 => exact HC0_0.out); (case side3 => repeat (first | exact (Kd.C_below HR0_1.out HB.out) | (with_reducible refine Kd.C_alloc ?_ _) | (with_reducible refine Kd.C_drewN ?_ _) | (with_reducible refine Kd.C_drew ?_))); (case side4 => exact HC0_1.out); rintro e w63 ⟨v915, rfl, ho0, hb⟩; refine ⟨_, rfl, ?_⟩; have n0_ := Aside0.mk (Kd.R_below (by (with_reducible repeat (first | apply Kd.R_alloc | apply Kd.R_drewN | apply Kd.R_drew)); exact HO_6.out) hb); have n1_ := Aside0.mk (Kd.R_below (by (with_reducible repeat (first | apply Kd.R_alloc | apply Kd.R_drewN | apply Kd.R_drew)); exact HO907.out) hb); have n2_ := Aside0.mk (Kd.R_below (by (with_reducible repeat (first | apply Kd.R_alloc | apply Kd.R_drewN | apply Kd.R_drew)); exact HO910.out) hb); have n3_ := Aside0.mk (Kd.R_below (by (with_reducible repeat (first | apply Kd.R_alloc | apply Kd.R_drewN | apply Kd.R_drew)); exact HO913.out) hb); have n4_ := Aside0.mk (Kd.S_lower (Kd.S_new' (Kd.S_new' (Kd.S_new' (Kd.S_new' ho0 (Kd.R_lt (by (with_reducible repeat (first | apply Kd.R_alloc | apply Kd.R_drewN | apply Kd.R_drew)); exact HO_6.out))) (Kd.R_lt (by (with_reducible repeat (first | apply Kd.R_alloc | apply Kd.R_drewN | apply Kd.R_drew)); exact HO907.out))) (Kd.R_lt (by (with_reducible repeat (first | apply Kd.R_alloc | apply Kd.R_drewN | apply Kd.R_drew)); exact HO910.out))) (Kd.R_lt (by (with_reducible repeat (first | apply Kd.R_alloc | apply Kd.R_drewN | apply Kd.R_drew)); exact HO913.out))) (below_size (by repeat (first | (with_reducible first | exact HB.out | apply below_alloc | apply pw_below_drewN | apply below_drew1 | refine below_set ?_ GE888.out) | exact HB.out)))); have n5_ := Aside0.mk (blk_below (g := gb888) (o := .cells #[.slice A0_0 l0_0.length c0_0, .slice A0_1 l0_1.length c0_1] 34 (0, 0)) (by (with_reducible repeat (first | refine blk_drewN ?_ _ | refine blk_drew ?_ | refine blk_alloc ?_ _)); exact BK888.out) hb); have n6_ := Aside0.mk (below_step (by repeat (first | (with_reducible first | exact HB.out | apply below_alloc | apply pw_below_drewN | apply below_drew1 | refine below_set ?_ GE888.out) | exact HB.out)) hb); clear HO_6; clear HO907; clear HO910; clear HO913; clear BK888; clear HB; have HO_6 := n0_; have HO907 := n1_; have HO910 := n2_; have HO913 := n3_; have HO916 := n4_; have BK888 := n5_; have HB := n6_; clear n0_ n1_ n2_ n3_ n4_ n5_ n6_; (try clear hb); (try clear hb2); (try clear hk); (try clear hi); (try clear ho0); obtain ⟨Ao64, co64, eo64⟩ := Kd.S_slice HO916.out; subst eo64))
                go_loopg [80] k1 (fun kq v80 w' => ∃ (x11_2 : List Int) (x80_2 : Int), v80 = .int .i64 x80_2 ∧ Aside0 (impl_FixedPoints.l1 kq l1 x6_1 t905 t908 x11_2 t914 t914 (t914.length : Int) x80_2 = some (r1, r2)) ∧ Aside0 (kq ≤ k1) ∧ Aside0 (Kd.R (Kd.int .i64) 3 w' w.heap.size (fun k_ => some k_ ≠ (v906 : Value).ownBlock ∧ some k_ ≠ (v909 : Value).ownBlock ∧ some k_ ≠ (v912 : Value).ownBlock) v891 x6_1) ∧ Aside0 (Kd.R (Kd.int .i64) 3 w' w.heap.size (fun k_ => some k_ ≠ (v891 : Value).ownBlock ∧ some k_ ≠ (v909 : Value).ownBlock ∧ some k_ ≠ (v912 : Value).ownBlock) v906 t905) ∧ Aside0 (Kd.R (Kd.int .i64) 3 w' w.heap.size (fun k_ => some k_ ≠ (v891 : Value).ownBlock ∧ some k_ ≠ (v906 : Value).ownBlock ∧ some k_ ≠ (v912 : Value).ownBlock) v909 t908) ∧ Aside0 (Kd.R (Kd.int .i64) 3 w' w.heap.size (fun k_ => some k_ ≠ (v891 : Value).ownBlock ∧ some k_ ≠ (v906 : Value).ownBlock ∧ some k_ ≠ (v909 : Value).ownBlock) v912 x11_2) ∧ Aside0 (Kd.S (Kd.slice 3 (Kd.int .i64)) 29 w' w.heap.size (fun k_ => some k_ ≠ (v891 : Value).ownBlock ∧ some k_ ≠ (v906 : Value).ownBlock ∧ some k_ ≠ (v909 : Value).ownBlock ∧ some k_ ≠ (v912 : Value).ownBlock) (.slice Ao64 t914.length co64) t914) ∧ Aside0 (Kd.S (Kd.slice 3 (Kd.int .i64)) 29 w' w.heap.size (fun k_ => some k_ ≠ (v891 : Value).ownBlock ∧ some k_ ≠ (v906 : Value).ownBlock ∧ some k_ ≠ (v909 : Value).ownBlock ∧ some k_ ≠ (v912 : Value).ownBlock) (.slice Ao64 t914.length co64) t914) ∧ Aside0 (w'.heap[gb888]? = some (.cells #[(.slice A0_0 l0_0.length c0_0), (.slice A0_1 l0_1.length c0_1)] 34 (0, 0))) ∧ Aside0 (Below w.heap.size w w'))
                case atStart => exact ⟨(y911), (0), (by first | rfl | (simp; done) | (simp [*]; done)), H', ⟨Nat.le_refl _⟩, ⟨by (with_reducible repeat (first | apply Kd.R_alloc | apply Kd.R_drewN | apply Kd.R_drew)); exact Kd.R_mono HO_6.out (fun _ hk => ⟨hk.1.1.2, ⟨hk.1.2, hk.2⟩⟩)⟩, ⟨by (with_reducible repeat (first | apply Kd.R_alloc | apply Kd.R_drewN | apply Kd.R_drew)); exact Kd.R_mono HO907.out (fun _ hk => ⟨hk.1.1.2, ⟨hk.1.2, hk.2⟩⟩)⟩, ⟨by (with_reducible repeat (first | apply Kd.R_alloc | apply Kd.R_drewN | apply Kd.R_drew)); exact Kd.R_mono HO910.out (fun _ hk => ⟨hk.1.1.2, ⟨hk.1.2, hk.2⟩⟩)⟩, ⟨by (with_reducible repeat (first | apply Kd.R_alloc | apply Kd.R_drewN | apply Kd.R_drew)); exact Kd.R_mono HO913.out (fun _ hk => ⟨hk.1.1.2, ⟨hk.1.2, hk.2⟩⟩)⟩, ⟨by (with_reducible repeat (first | apply Kd.S_alloc | apply Kd.S_drewN | apply Kd.S_drew)); exact Kd.S_mono HO916.out (fun _ hk => ⟨hk.1.1.1.2, ⟨hk.1.1.2, ⟨hk.1.2, hk.2⟩⟩⟩)⟩, ⟨by (with_reducible repeat (first | apply Kd.S_alloc | apply Kd.S_drewN | apply Kd.S_drew)); exact Kd.S_mono HO916.out (fun _ hk => ⟨hk.1.1.1.2, ⟨hk.1.1.2, ⟨hk.1.2, hk.2⟩⟩⟩)⟩, ⟨by (with_reducible repeat (first | refine blk_drewN ?_ _ | refine blk_drew ?_ | refine blk_alloc ?_ _)); exact BK888.out⟩, ⟨by repeat (first | (with_reducible first | exact HB.out | apply below_alloc | apply pw_below_drewN | apply below_drew1 | refine below_set ?_ GE888.out) | exact HB.out)⟩⟩
                case round =>
                  clear H'
                  try clear c1
                  try clear p1
                  try clear q1
                  try clear hx1
                  try clear qi1
                  try clear c2
                  try clear p2
                  try clear q2
                  try clear hx2
                  try clear qi2
                  try clear hf2
                  try clear c4
                  try clear p4
                  try clear q4
                  try clear hx4
                  try clear qi4
                  try clear hf4
                  try clear c5
                  try clear c5b0
                  try clear c5b1
                  try clear c6
                  try clear p6
                  try clear c8
                  try clear p8
                  try clear q8
                  try clear hx8
                  try clear qi8
                  try clear p9
                  try clear q9
                  try clear hx9
                  try clear qi9
                  try clear c11
                  try clear c11b0
                  try clear c12
                  try clear c12b0
                  try clear c13
                  try clear c13b0
                  try clear c15
                  try clear c15b0
                  try clear c15b1
                  try clear c16
                  try clear c16b0
                  try clear c16b1
                  try clear p17
                  try clear q17
                  try clear hx17
                  try clear qi17
                  try clear hf17
                  try clear c21
                  try clear c21b0
                  try clear c22
                  try clear c22b0
                  try clear c23
                  try clear c23b0
                  try clear c23b1
                  try clear c24
                  try clear c24b0
                  try clear c24b1
                  try clear p25
                  try clear q25
                  try clear hx25
                  try clear qi25
                  try clear hf25
                  try clear c26
                  try clear c26b0
                  try clear c27
                  try clear c27b0
                  try clear c27b1
                  try clear c28
                  try clear c28b0
                  try clear c28b1
                  try clear p29
                  try clear q29
                  try clear hx29
                  try clear qi29
                  try clear hf29
                  try clear c42
                  try clear c42b0
                  try clear c43
                  try clear c43b0
                  try clear c43b1
                  try clear c44
                  try clear c44b0
                  try clear c44b1
                  try clear p45
                  try clear q45
                  try clear hx45
                  try clear qi45
                  try clear hf45
                  try clear c51
                  try clear c53
                  try clear c53b0
                  try clear c53b1
                  try clear c54
                  try clear c54b0
                  try clear c54b1
                  try clear c63
                  try clear p64
                  try clear hcz30_0
                  try clear hcz30_1
                  try clear hcz34_0
                  try clear hcz34_1
                  try clear hcz37_0
                  try clear hcz37_1
                  try clear hcz41_0
                  try clear hcz41_1
                  try clear hcz46_0
                  try clear hcz46_1
                  try clear hcz50_0
                  try clear hcz50_1
                  try clear hcz56_0
                  try clear hcz56_1
                  try clear hcz58_0
                  try clear hcz58_1
                  try clear hcz62_0
                  try clear hcz62_1
                  try clear hcz7_0
                  try clear hcz7_1
                  try clear hfz30_0
                  try clear hfz30_1
                  try clear hfz34_0
                  try clear hfz34_1
                  try clear hfz37_0
                  try clear hfz37_1
                  try clear hfz41_0
                  try clear hfz41_1
                  try clear hfz46_0
                  try clear hfz46_1
                  try clear hfz50_0
                  try clear hfz50_1
                  try clear hfz56_0
                  try clear hfz56_1
                  try clear hfz58_0
                  try clear hfz58_1
                  try clear hfz62_0
                  try clear hfz62_1
                  try clear hfz7_0
                  try clear hfz7_1
                  try clear hx17_0
                  try clear hx25_0
                  try clear hx29_0
                  try clear hx45_0
                  try clear hx893_0
                  try clear hx894_0
                  try clear hx896_0
                  try clear hx897_0
                  try clear hx899_0
                  try clear hx900_0
                  try clear hx902_0
                  try clear hx903_0
                  try clear p1
                  try clear p17
                  try clear p2
                  try clear p25
                  try clear p29
                  try clear p45
                  try clear p6
                  try clear p8
                  try clear p893
                  try clear p894
                  try clear p896
                  try clear p897
                  try clear p899
                  try clear p900
                  try clear p902
                  try clear p903
                  try clear q1
                  try clear q17
                  try clear q25
                  try clear q29
                  try clear q45
                  try clear q8
                  try clear q893
                  try clear q894
                  try clear q896
                  try clear q897
                  try clear q899
                  try clear q900
                  try clear q902
                  try clear q903
                  obtain ⟨x11_2, x80_2, rfl, HA, HK2, HO_6, HO_9, HO_10, HO_11, HO_12, HO_78, BK888, HB⟩ := hrel
                  cases gk with
                  | zero => exact absurd HA.out (by simp [impl_FixedPoints.l1])
                  | succ k2 =>
                    have H := HA.out
                    clear HA
                    simp only [impl_FixedPoints.l1] at H
                    by_cases c65 : x80_2 < (t914.length : Int)
                    · rw [if_pos c65] at H
                      have c65b0 : decide (x80_2 < (t914.length : Int)) = true := decide_eq_true c65
                      clear c65
                      by_cases c66 : 0 ≤ x80_2
                      · rw [if_pos c66] at H
                        have c66b0 : decide (0 ≤ x80_2) = true := decide_eq_true c66
                        clear c66
                        by_cases c67 : x80_2 < (t914.length : Int)
                        · rw [if_pos c67] at H
                          have c67b0 : decide (x80_2 < (t914.length : Int)) = true := decide_eq_true c67
                          clear c67
                          have H' := Aside0.mk H
                          clear H
                          have p917 : 0 ≤ (x80_2 : Int) := of_decide_eq_true (by first | (with_reducible assumption) | assumption)
                          have q917 : x80_2 < (t914.length : Int) := of_decide_eq_true (by first | (with_reducible assumption) | assumption)
                          obtain ⟨ad917, A917_0, c917_0, e917, hx917_0, hl917_0, hi917_0⟩ := at_L3 (Kd.S_reads' HO_78.out).2.2 x80_2 p917 q917
                          cases e917
                          obtain ⟨ce917, hce917, hMe917, hcc917⟩ := Kd.S_get HO_78.out [] x80_2 p917 (by first | exact q917 | exact of_decide_eq_true (by first | (with_reducible assumption) | assumption) | (have e_ := (Kd.S_reads' HO_78.out).1; omega))
                          obtain ⟨ve917_0, rfl, ge917_0⟩ := hMe917
                          have hv917_0 := hcc917 0 _ rfl
                          rw [Nat.add_zero, show ((Kd.slice 3 (Kd.int .i64))).sz = 1 from rfl, Nat.mul_one] at hv917_0
                          replace hv917_0 := Option.some.inj (hv917_0.symm.trans hx917_0)
                          rw [hv917_0] at ge917_0
                          have HL917_0 := Aside0.mk (show Kd.R (Kd.int .i64) 3 _ _ _ _ (rd_L3 t914 x80_2) from ge917_0)
                          clear hv917_0 ge917_0
                          clear hcc917 hce917
                          have HR917_0 := Aside0.mk hi917_0
                          have HC917_0 := Aside0.mk hl917_0
                          clear hi917_0 hl917_0
                          replace p917 := eq_true p917
                          replace q917 := eq_true q917
                          go_wp2
                          go_loopg [87] k2 (fun kq v87 w' => ∃ (x11_3 : List Int) (x87_3 : Int), v87 = .int .i64 x87_3 ∧ Aside0 (impl_FixedPoints.l2 kq l1 x6_1 t905 t908 x11_3 t914 x80_2 t914 (t914.length : Int) x80_2 (rd_L3 t914 x80_2) ((rd_L3 t914 x80_2).length : Int) x87_3 = some (r1, r2)) ∧ Aside0 (kq ≤ k2) ∧ Aside0 (Kd.R (Kd.int .i64) 3 w' w.heap.size (fun k_ => some k_ ≠ (v906 : Value).ownBlock ∧ some k_ ≠ (v909 : Value).ownBlock ∧ some k_ ≠ (v912 : Value).ownBlock) v891 x6_1) ∧ Aside0 (Kd.R (Kd.int .i64) 3 w' w.heap.size (fun k_ => some k_ ≠ (v891 : Value).ownBlock ∧ some k_ ≠ (v909 : Value).ownBlock ∧ some k_ ≠ (v912 : Value).ownBlock) v906 t905) ∧ Aside0 (Kd.R (Kd.int .i64) 3 w' w.heap.size (fun k_ => some k_ ≠ (v891 : Value).ownBlock ∧ some k_ ≠ (v906 : Value).ownBlock ∧ some k_ ≠ (v912 : Value).ownBlock) v909 t908) ∧ Aside0 (Kd.R (Kd.int .i64) 3 w' w.heap.size (fun k_ => some k_ ≠ (v891 : Value).ownBlock ∧ some k_ ≠ (v906 : Value).ownBlock ∧ some k_ ≠ (v909 : Value).ownBlock) v912 x11_3) ∧ Aside0 (Kd.S (Kd.slice 3 (Kd.int .i64)) 29 w' w.heap.size (fun k_ => some k_ ≠ (v891 : Value).ownBlock ∧ some k_ ≠ (v906 : Value).ownBlock ∧ some k_ ≠ (v909 : Value).ownBlock ∧ some k_ ≠ (v912 : Value).ownBlock) (.slice (some ad917) t914.length co64) t914) ∧ Aside0 (Kd.S (Kd.slice 3 (Kd.int .i64)) 29 w' w.heap.size (fun k_ => some k_ ≠ (v891 : Value).ownBlock ∧ some k_ ≠ (v906 : Value).ownBlock ∧ some k_ ≠ (v909 : Value).ownBlock ∧ some k_ ≠ (v912 : Value).ownBlock) (.slice (some ad917) t914.length co64) t914) ∧ Aside0 (w'.heap[gb888]? = some (.cells #[(.slice A0_0 l0_0.length c0_0), (.slice A0_1 l0_1.length c0_1)] 34 (0, 0))) ∧ Aside0 (Kd.R (Kd.int .i64) 3 w' w.heap.size (fun k_ => some k_ ≠ (v912 : Value).ownBlock) (.slice A917_0 (rd_L3 t914 x80_2).length c917_0) (rd_L3 t914 x80_2)) ∧ Aside0 (Below w.heap.size w w'))
                          case atStart => exact ⟨(x11_2), (0), (by first | rfl | (simp; done) | (simp [*]; done)), H', ⟨Nat.le_refl _⟩, ⟨by (with_reducible repeat (first | apply Kd.R_alloc | apply Kd.R_drewN | apply Kd.R_drew)); exact HO_6.out⟩, ⟨by (with_reducible repeat (first | apply Kd.R_alloc | apply Kd.R_drewN | apply Kd.R_drew)); exact HO_9.out⟩, ⟨by (with_reducible repeat (first | apply Kd.R_alloc | apply Kd.R_drewN | apply Kd.R_drew)); exact HO_10.out⟩, ⟨by (with_reducible repeat (first | apply Kd.R_alloc | apply Kd.R_drewN | apply Kd.R_drew)); exact HO_11.out⟩, ⟨by (with_reducible repeat (first | apply Kd.S_alloc | apply Kd.S_drewN | apply Kd.S_drew)); exact HO_12.out⟩, ⟨by (with_reducible repeat (first | apply Kd.S_alloc | apply Kd.S_drewN | apply Kd.S_drew)); exact HO_78.out⟩, ⟨by (with_reducible repeat (first | refine blk_drewN ?_ _ | refine blk_drew ?_ | refine blk_alloc ?_ _)); exact BK888.out⟩, ⟨by (with_reducible repeat (first | apply Kd.R_alloc | apply Kd.R_drewN | apply Kd.R_drew)); exact Kd.R_mono HL917_0.out (fun _ hk => hk.1.2.2.2)⟩, ⟨by repeat (first | (with_reducible first | exact HB.out | apply below_alloc | apply pw_below_drewN | apply below_drew1 | refine below_set ?_ GE888.out) | exact HB.out)⟩⟩
                          case round =>
                            clear H'
                            try clear c1
                            try clear p1
                            try clear q1
                            try clear hx1
                            try clear qi1
                            try clear c2
                            try clear p2
                            try clear q2
                            try clear hx2
                            try clear qi2
                            try clear hf2
                            try clear c4
                            try clear p4
                            try clear q4
                            try clear hx4
                            try clear qi4
                            try clear hf4
                            try clear c5
                            try clear c5b0
                            try clear c5b1
                            try clear c6
                            try clear p6
                            try clear c8
                            try clear p8
                            try clear q8
                            try clear hx8
                            try clear qi8
                            try clear c9
                            try clear p9
                            try clear q9
                            try clear hx9
                            try clear qi9
                            try clear c11
                            try clear c11b0
                            try clear c12
                            try clear c12b0
                            try clear c13
                            try clear c13b0
                            try clear c15
                            try clear c15b0
                            try clear c15b1
                            try clear c16
                            try clear c16b0
                            try clear c16b1
                            try clear p17
                            try clear q17
                            try clear hx17
                            try clear qi17
                            try clear hf17
                            try clear c21
                            try clear c21b0
                            try clear c22
                            try clear c22b0
                            try clear c23
                            try clear c23b0
                            try clear c23b1
                            try clear c24
                            try clear c24b0
                            try clear c24b1
                            try clear p25
                            try clear q25
                            try clear hx25
                            try clear qi25
                            try clear hf25
                            try clear c26
                            try clear c26b0
                            try clear c27
                            try clear c27b0
                            try clear c27b1
                            try clear c28
                            try clear c28b0
                            try clear c28b1
                            try clear p29
                            try clear q29
                            try clear hx29
                            try clear qi29
                            try clear hf29
                            try clear c42
                            try clear c42b0
                            try clear c43
                            try clear c43b0
                            try clear c43b1
                            try clear c44
                            try clear c44b0
                            try clear c44b1
                            try clear p45
                            try clear q45
                            try clear hx45
                            try clear qi45
                            try clear hf45
                            try clear c51
                            try clear c53
                            try clear c53b0
                            try clear c53b1
                            try clear c54
                            try clear c54b0
                            try clear c54b1
                            try clear c63
                            try clear p64
                            try clear c65
                            try clear c65b0
                            try clear c66
                            try clear c66b0
                            try clear c67
                            try clear c67b0
                            try clear hcz30_0
                            try clear hcz30_1
                            try clear hcz34_0
                            try clear hcz34_1
                            try clear hcz37_0
                            try clear hcz37_1
                            try clear hcz41_0
                            try clear hcz41_1
                            try clear hcz46_0
                            try clear hcz46_1
                            try clear hcz50_0
                            try clear hcz50_1
                            try clear hcz56_0
                            try clear hcz56_1
                            try clear hcz58_0
                            try clear hcz58_1
                            try clear hcz62_0
                            try clear hcz62_1
                            try clear hcz7_0
                            try clear hcz7_1
                            try clear hfz30_0
                            try clear hfz30_1
                            try clear hfz34_0
                            try clear hfz34_1
                            try clear hfz37_0
                            try clear hfz37_1
                            try clear hfz41_0
                            try clear hfz41_1
                            try clear hfz46_0
                            try clear hfz46_1
                            try clear hfz50_0
                            try clear hfz50_1
                            try clear hfz56_0
                            try clear hfz56_1
                            try clear hfz58_0
                            try clear hfz58_1
                            try clear hfz62_0
                            try clear hfz62_1
                            try clear hfz7_0
                            try clear hfz7_1
                            try clear hx17_0
                            try clear hx25_0
                            try clear hx29_0
                            try clear hx45_0
                            try clear hx893_0
                            try clear hx894_0
                            try clear hx896_0
                            try clear hx897_0
                            try clear hx899_0
                            try clear hx900_0
                            try clear hx902_0
                            try clear hx903_0
                            try clear hx917_0
                            try clear p1
                            try clear p17
                            try clear p2
                            try clear p25
                            try clear p29
                            try clear p4
                            try clear p45
                            try clear p6
                            try clear p64
                            try clear p8
                            try clear p893
                            try clear p894
                            try clear p896
                            try clear p897
                            try clear p899
                            try clear p9
                            try clear p900
                            try clear p902
                            try clear p903
                            try clear p917
                            try clear q1
                            try clear q17
                            try clear q2
                            try clear q25
                            try clear q29
                            try clear q4
                            try clear q45
                            try clear q8
                            try clear q893
                            try clear q894
                            try clear q896
                            try clear q897
                            try clear q899
                            try clear q9
                            try clear q900
                            try clear q902
                            try clear q903
                            try clear q917
                            obtain ⟨x11_3, x87_3, rfl, HA, HK3, HO_6, HO_9, HO_10, HO_11, HO_12, HO_78, BK888, HLR, HB⟩ := hrel
                            clear HR917_0
                            have HR917_0 := Aside0.mk (Kd.R_reads' HLR.out).2.2
                            cases gk with
                            | zero => exact absurd HA.out (by simp [impl_FixedPoints.l2])
                            | succ k3 =>
                              have H := HA.out
                              clear HA
                              simp only [impl_FixedPoints.l2] at H
                              by_cases c68 : x87_3 < ((rd_L3 t914 x80_2).length : Int)
                              · rw [if_pos c68] at H
                                have c68b0 : decide (x87_3 < ((rd_L3 t914 x80_2).length : Int)) = true := decide_eq_true c68
                                clear c68
                                by_cases c69 : 0 ≤ x87_3
                                · rw [if_pos c69] at H
                                  have c69b0 : decide (0 ≤ x87_3) = true := decide_eq_true c69
                                  clear c69
                                  by_cases c70 : x87_3 < ((rd_L3 t914 x80_2).length : Int)
                                  · rw [if_pos c70] at H
                                    have c70b0 : decide (x87_3 < ((rd_L3 t914 x80_2).length : Int)) = true := decide_eq_true c70
                                    clear c70
                                    by_cases c71 : 0 ≤ (rd (rd_L3 t914 x80_2) x87_3)
                                    · rw [if_pos c71] at H
                                      have c71b0 : decide (0 ≤ (rd (rd_L3 t914 x80_2) x87_3)) = true := decide_eq_true c71
                                      clear c71
                                      by_cases c72 : (rd (rd_L3 t914 x80_2) x87_3) < (x11_3.length : Int)
                                      · rw [if_pos c72] at H
                                        have c72b0 : decide ((rd (rd_L3 t914 x80_2) x87_3) < (x11_3.length : Int)) = true := decide_eq_true c72
                                        clear c72
                                        obtain ⟨y919, hy919⟩ : ∃ y_ : List Int, y_ = (x11_3.set ((rd (rd_L3 t914 x80_2) x87_3) : Int).toNat x80_2) := ⟨_, rfl⟩
                                        replace H : (impl_FixedPoints.l2 k3 l1 x6_1 t905 t908 y919 t914 x80_2 t914 (t914.length : Int) x80_2 (rd_L3 t914 x80_2) ((rd_L3 t914 x80_2).length : Int) (wrap64 (x87_3 + 1))) = some (r1, r2) := by first | (rw [hy919]; with_reducible exact H) | (have H2_ := (Option.bind_some _ _).symm.trans H; rw [hy919]; with_reducible exact H2_) | (have H2_ := (Option.bind_some _ _).symm.trans H; with_reducible exact H2_) | with_reducible exact H | (rw [hy919]; exact H) | exact H
                                        have Ny919 := Aside0.mk hy919
                                        clear hy919
                                        have H' := Aside0.mk H
                                        clear H
                                        have p918 : 0 ≤ (x87_3 : Int) := of_decide_eq_true (by first | (with_reducible assumption) | assumption)
                                        have q918 : x87_3 < ((rd_L3 t914 x80_2).length : Int) := of_decide_eq_true (by first | (with_reducible assumption) | assumption)
                                        obtain ⟨ad918, e918, hx918_0⟩ := Kd.at_int HR917_0.out x87_3 p918 q918
                                        cases e918
                                        (try replace hx918_0 := (HB.out.cell (World.block_lt_of_cell? w _ hx918_0)).trans hx918_0)
                                        replace p918 := eq_true p918
                                        replace q918 := eq_true q918
                                        have p73 : 0 ≤ ((rd (rd_L3 t914 x80_2) x87_3) : Int) := of_decide_eq_true (by first | (with_reducible assumption) | assumption)
                                        have q73 : ((rd (rd_L3 t914 x80_2) x87_3) : Int) < ((x11_3.length : Int) : Int) := of_decide_eq_true (by first | (with_reducible assumption) | assumption)
                                        obtain ⟨go73, co73, eo73, gb73, gl73, cl73, HG73⟩ := Kd.R_form HO_11.out (by omega)
                                        (first | cases eo73 | (injection eo73 with ea_ en_ ec_; (first | subst ea_ | (injection ea_ with ea_; subst ea_)); subst ec_; clear en_))
                                        have GB73 := Aside0.mk gb73
                                        have GG73 := Aside0.mk HG73
                                        clear gb73 gl73 HG73
                                        obtain ⟨hx73_0, hf73_0⟩ := Kd.R_celln 0 HO_11.out ((rd (rd_L3 t914 x80_2) x87_3) : Int) p73 q73
                                        replace p73 := eq_true p73
                                        replace q73 := eq_true q73
                                        have HP74 := Kd.R_putg HO_11.out ((rd (rd_L3 t914 x80_2) x87_3) : Int) x80_2
                                        go_wp2_with (first | ((with_reducible refine gate_store (t := 3) (p := 94) rfl ?_); refine store_event (t := 3) (p := 94) (v := ?vo_w75) (w1 := (wr.setCell ⟨go73, ((rd (rd_L3 t914 x80_2) x87_3) : Int).toNat, none⟩ (.int .i64 x80_2))) ?hg ?ho ?hn ?hr ?_; (case ho => rfl); (case hg => rfl); (case hn => rfl); (case hr => first | (go_simp; done) | (go_simp; rfl)); intro w75 hw; have hg : wr.grownBy w75 (some go73) := (by rw [hw]; exact HP74.2); have hp_ : Kd.R (Kd.int .i64) 3 w75 w.heap.size (fun k_ => some k_ ≠ (v891 : Value).ownBlock ∧ some k_ ≠ (v906 : Value).ownBlock ∧ some k_ ≠ (v909 : Value).ownBlock) (.slice (some ⟨go73, 0, none⟩) x11_3.length co73) y919 := (by rw [hw, Ny919.out]; exact HP74.1); clear HP74; have n0_ := Aside0.mk (Kd.R_after (v := (.slice (some ⟨go73, 0, none⟩) x11_3.length co73)) (v1 := (.slice (some ⟨go73, 0, none⟩) x11_3.length co73)) (ok := (fun k_ => some k_ ≠ (v906 : Value).ownBlock ∧ some k_ ≠ (v909 : Value).ownBlock)) (by (with_reducible repeat (first | apply Kd.R_alloc | apply Kd.R_drewN | apply Kd.R_drew)); exact Kd.R_mono HO_6.out (fun _ hk => ⟨⟨hk.1, hk.2.1⟩, hk.2.2⟩)) hg (.inl rfl)); have n1_ := Aside0.mk (Kd.R_after (v := (.slice (some ⟨go73, 0, none⟩) x11_3.length co73)) (v1 := (.slice (some ⟨go73, 0, none⟩) x11_3.length co73)) (ok := (fun k_ => some k_ ≠ (v891 : Value).ownBlock ∧ some k_ ≠ (v909 : Value).ownBlock)) (by (with_reducible repeat (first | apply Kd.R_alloc | apply Kd.R_drewN | apply Kd.R_drew)); exact Kd.R_mono HO_9.out (fun _ hk => ⟨⟨hk.1, hk.2.1⟩, hk.2.2⟩)) hg (.inl rfl)); have n2_ := Aside0.mk (Kd.R_after (v := (.slice (some ⟨go73, 0, none⟩) x11_3.length co73)) (v1 := (.slice (some ⟨go73, 0, none⟩) x11_3.length co73)) (ok := (fun k_ => some k_ ≠ (v891 : Value).ownBlock ∧ some k_ ≠ (v906 : Value).ownBlock)) (by (with_reducible repeat (first | apply Kd.R_alloc | apply Kd.R_drewN | apply Kd.R_drew)); exact Kd.R_mono HO_10.out (fun _ hk => ⟨⟨hk.1, hk.2.1⟩, hk.2.2⟩)) hg (.inl rfl)); have n3_ := Aside0.mk (hp_); have n4_ := Aside0.mk (Kd.S_after (v := (.slice (some ⟨go73, 0, none⟩) x11_3.length co73)) (v1 := (.slice (some ⟨go73, 0, none⟩) x11_3.length co73)) (ok := (fun k_ => some k_ ≠ (v891 : Value).ownBlock ∧ some k_ ≠ (v906 : Value).ownBlock ∧ some k_ ≠ (v909 : Value).ownBlock)) (by (with_reducible repeat (first | apply Kd.S_alloc | apply Kd.S_drewN | apply Kd.S_drew)); exact Kd.S_mono HO_12.out (fun _ hk => ⟨⟨hk.1, ⟨hk.2.1, hk.2.2.1⟩⟩, hk.2.2.2⟩)) hg (.inl rfl)); have n5_ := Aside0.mk (Kd.S_after (v := (.slice (some ⟨go73, 0, none⟩) x11_3.length co73)) (v1 := (.slice (some ⟨go73, 0, none⟩) x11_3.length co73)) (ok := (fun k_ => some k_ ≠ (v891 : Value).ownBlock ∧ some k_ ≠ (v906 : Value).ownBlock ∧ some k_ ≠ (v909 : Value).ownBlock)) (by (with_reducible repeat (first | apply Kd.S_alloc | apply Kd.S_drewN | apply Kd.S_drew)); exact Kd.S_mono HO_78.out (fun _ hk => ⟨⟨hk.1, ⟨hk.2.1, hk.2.2.1⟩⟩, hk.2.2.2⟩)) hg (.inl rfl)); have n6_ := Aside0.mk (blk_grown (g := gb888) (o := .cells #[.slice A0_0 l0_0.length c0_0, .slice A0_1 l0_1.length c0_1] 34 (0, 0)) (by (with_reducible repeat (first | refine blk_drewN ?_ _ | refine blk_drew ?_ | refine blk_alloc ?_ _)); exact BK888.out) hg (Kd.R_ne HO_11.out BK888.out (by decide))); have n7_ := Aside0.mk ((by rw [hw]; exact below_set (HB.out) GB73.out : Below w.heap.size w w75)); have nL_ := Aside0.mk (Kd.R_grown HLR.out hg (fun k_ hk => by simpa [Value.ownBlock] using hk)); clear HLR; have HLR := nL_; clear nL_; clear HO_6; clear HO_9; clear HO_10; clear HO_11; clear HO_12; clear HO_78; clear BK888; clear HB; have HO_6 := n0_; have HO_9 := n1_; have HO_10 := n2_; have HO_11 := n3_; have HO_12 := n4_; have HO_78 := n5_; have BK888 := n6_; have HB := n7_; clear n0_ n1_ n2_ n3_ n4_ n5_ n6_ n7_; clear hg hw hp_))
                                        go_roundg k3
                                        case measure => have := HK1.out; have := HK2.out; have := HK3.out; omega
                                        case rel => exact ⟨(y919), (wrap64 (x87_3 + 1)), (by first | rfl | (simp; done) | (simp [*]; done)), H', ⟨by have := HK1.out; have := HK2.out; have := HK3.out; omega⟩, ⟨by (with_reducible repeat (first | apply Kd.R_alloc | apply Kd.R_drewN | apply Kd.R_drew)); exact Kd.R_mono HO_6.out (fun _ hk => ⟨hk.1.1, ⟨hk.1.2, hk.2⟩⟩)⟩, ⟨by (with_reducible repeat (first | apply Kd.R_alloc | apply Kd.R_drewN | apply Kd.R_drew)); exact Kd.R_mono HO_9.out (fun _ hk => ⟨hk.1.1, ⟨hk.1.2, hk.2⟩⟩)⟩, ⟨by (with_reducible repeat (first | apply Kd.R_alloc | apply Kd.R_drewN | apply Kd.R_drew)); exact Kd.R_mono HO_10.out (fun _ hk => ⟨hk.1.1, ⟨hk.1.2, hk.2⟩⟩)⟩, ⟨by (with_reducible repeat (first | apply Kd.R_alloc | apply Kd.R_drewN | apply Kd.R_drew)); exact HO_11.out⟩, ⟨by (with_reducible repeat (first | apply Kd.S_alloc | apply Kd.S_drewN | apply Kd.S_drew)); exact Kd.S_mono HO_12.out (fun _ hk => ⟨hk.1.1, ⟨hk.1.2.1, ⟨hk.1.2.2, hk.2⟩⟩⟩)⟩, ⟨by (with_reducible repeat (first | apply Kd.S_alloc | apply Kd.S_drewN | apply Kd.S_drew)); exact Kd.S_mono HO_78.out (fun _ hk => ⟨hk.1.1, ⟨hk.1.2.1, ⟨hk.1.2.2, hk.2⟩⟩⟩)⟩, ⟨by (with_reducible repeat (first | refine blk_drewN ?_ _ | refine blk_drew ?_ | refine blk_alloc ?_ _)); exact BK888.out⟩, ⟨by (with_reducible repeat (first | apply Kd.R_alloc | apply Kd.R_drewN | apply Kd.R_drew)); exact HLR.out⟩, ⟨by repeat (first | (with_reducible first | exact HB.out | apply below_alloc | apply pw_below_drewN | apply below_drew1 | refine below_set ?_ GE888.out) | exact HB.out)⟩⟩
                                      · rw [if_neg c72] at H
                                        exact absurd H (by simp)
                                    · rw [if_neg c71] at H
                                      exact absurd H (by simp)
                                  · rw [if_neg c70] at H
                                    exact absurd H (by simp)
                                · rw [if_neg c69] at H
                                  exact absurd H (by simp)
                              · rw [if_neg c68] at H
                                have c68b0 : decide (x87_3 < ((rd_L3 t914 x80_2).length : Int)) = false := decide_eq_false c68
                                clear c68
                                have H' := Aside0.mk H
                                clear H
                                go_wp2
                                go_roundg k3
                                case measure => have := HK1.out; have := HK2.out; have := HK3.out; omega
                                case rel => exact ⟨(x11_3), (wrap64 (x80_2 + 1)), (by first | rfl | (simp; done) | (simp [*]; done)), H', ⟨by have := HK1.out; have := HK2.out; have := HK3.out; omega⟩, ⟨by (with_reducible repeat (first | apply Kd.R_alloc | apply Kd.R_drewN | apply Kd.R_drew)); exact HO_6.out⟩, ⟨by (with_reducible repeat (first | apply Kd.R_alloc | apply Kd.R_drewN | apply Kd.R_drew)); exact HO_9.out⟩, ⟨by (with_reducible repeat (first | apply Kd.R_alloc | apply Kd.R_drewN | apply Kd.R_drew)); exact HO_10.out⟩, ⟨by (with_reducible repeat (first | apply Kd.R_alloc | apply Kd.R_drewN | apply Kd.R_drew)); exact HO_11.out⟩, ⟨by (with_reducible repeat (first | apply Kd.S_alloc | apply Kd.S_drewN | apply Kd.S_drew)); exact HO_12.out⟩, ⟨by (with_reducible repeat (first | apply Kd.S_alloc | apply Kd.S_drewN | apply Kd.S_drew)); exact HO_78.out⟩, ⟨by (with_reducible repeat (first | refine blk_drewN ?_ _ | refine blk_drew ?_ | refine blk_alloc ?_ _)); exact BK888.out⟩, ⟨by repeat (first | (with_reducible first | exact HB.out | apply below_alloc | apply pw_below_drewN | apply below_drew1 | refine below_set ?_ GE888.out) | exact HB.out)⟩⟩
                        · rw [if_neg c67] at H
                          exact absurd H (by simp)
                      · rw [if_neg c66] at H
                        exact absurd H (by simp)
                    · rw [if_neg c65] at H
                      have c65b0 : decide (x80_2 < (t914.length : Int)) = false := decide_eq_false c65
                      clear c65
                      have H' := Aside0.mk H
                      clear H
                      go_wp2
                      go_loopg [99] k2 (fun kq v99 w' => ∃ (x6_3 : List Int) (x99_3 : Int), v99 = .int .i64 x99_3 ∧ Aside0 (impl_FixedPoints.l3 kq l1 x6_3 t905 t908 x11_2 t914 (t914.length : Int) x99_3 = some (r1, r2)) ∧ Aside0 (kq ≤ k2) ∧ Aside0 (Kd.R (Kd.int .i64) 3 w' w.heap.size (fun k_ => some k_ ≠ (v906 : Value).ownBlock ∧ some k_ ≠ (v909 : Value).ownBlock ∧ some k_ ≠ (v912 : Value).ownBlock) v891 x6_3) ∧ Aside0 (Kd.R (Kd.int .i64) 3 w' w.heap.size (fun k_ => some k_ ≠ (v891 : Value).ownBlock ∧ some k_ ≠ (v909 : Value).ownBlock ∧ some k_ ≠ (v912 : Value).ownBlock) v906 t905) ∧ Aside0 (Kd.R (Kd.int .i64) 3 w' w.heap.size (fun k_ => some k_ ≠ (v891 : Value).ownBlock ∧ some k_ ≠ (v906 : Value).ownBlock ∧ some k_ ≠ (v912 : Value).ownBlock) v909 t908) ∧ Aside0 (Kd.R (Kd.int .i64) 3 w' w.heap.size (fun k_ => some k_ ≠ (v891 : Value).ownBlock ∧ some k_ ≠ (v906 : Value).ownBlock ∧ some k_ ≠ (v909 : Value).ownBlock) v912 x11_2) ∧ Aside0 (Kd.S (Kd.slice 3 (Kd.int .i64)) 29 w' w.heap.size (fun k_ => some k_ ≠ (v891 : Value).ownBlock ∧ some k_ ≠ (v906 : Value).ownBlock ∧ some k_ ≠ (v909 : Value).ownBlock ∧ some k_ ≠ (v912 : Value).ownBlock) (.slice Ao64 t914.length co64) t914) ∧ Aside0 (w'.heap[gb888]? = some (.cells #[(.slice A0_0 l0_0.length c0_0), (.slice A0_1 l0_1.length c0_1)] 34 (0, 0))) ∧ Aside0 (Below w.heap.size w w'))
                      case atStart => exact ⟨(x6_1), (0), (by first | rfl | (simp; done) | (simp [*]; done)), H', ⟨Nat.le_refl _⟩, ⟨by (with_reducible repeat (first | apply Kd.R_alloc | apply Kd.R_drewN | apply Kd.R_drew)); exact HO_6.out⟩, ⟨by (with_reducible repeat (first | apply Kd.R_alloc | apply Kd.R_drewN | apply Kd.R_drew)); exact HO_9.out⟩, ⟨by (with_reducible repeat (first | apply Kd.R_alloc | apply Kd.R_drewN | apply Kd.R_drew)); exact HO_10.out⟩, ⟨by (with_reducible repeat (first | apply Kd.R_alloc | apply Kd.R_drewN | apply Kd.R_drew)); exact HO_11.out⟩, ⟨by (with_reducible repeat (first | apply Kd.S_alloc | apply Kd.S_drewN | apply Kd.S_drew)); exact HO_12.out⟩, ⟨by (with_reducible repeat (first | refine blk_drewN ?_ _ | refine blk_drew ?_ | refine blk_alloc ?_ _)); exact BK888.out⟩, ⟨by repeat (first | (with_reducible first | exact HB.out | apply below_alloc | apply pw_below_drewN | apply below_drew1 | refine below_set ?_ GE888.out) | exact HB.out)⟩⟩
                      case round =>
                        clear H'
                        try clear c1
                        try clear p1
                        try clear q1
                        try clear hx1
                        try clear qi1
                        try clear c2
                        try clear p2
                        try clear q2
                        try clear hx2
                        try clear qi2
                        try clear hf2
                        try clear c4
                        try clear p4
                        try clear q4
                        try clear hx4
                        try clear qi4
                        try clear hf4
                        try clear c5
                        try clear c5b0
                        try clear c5b1
                        try clear c6
                        try clear p6
                        try clear c7
                        try clear p7
                        try clear q7
                        try clear hx7
                        try clear hf7
                        try clear c8
                        try clear p8
                        try clear q8
                        try clear hx8
                        try clear qi8
                        try clear c9
                        try clear p9
                        try clear q9
                        try clear hx9
                        try clear qi9
                        try clear c11
                        try clear c11b0
                        try clear c12
                        try clear c12b0
                        try clear c13
                        try clear c13b0
                        try clear c15
                        try clear c15b0
                        try clear c15b1
                        try clear c16
                        try clear c16b0
                        try clear c16b1
                        try clear p17
                        try clear q17
                        try clear hx17
                        try clear qi17
                        try clear hf17
                        try clear c21
                        try clear c21b0
                        try clear c22
                        try clear c22b0
                        try clear c23
                        try clear c23b0
                        try clear c23b1
                        try clear c24
                        try clear c24b0
                        try clear c24b1
                        try clear p25
                        try clear q25
                        try clear hx25
                        try clear qi25
                        try clear hf25
                        try clear c26
                        try clear c26b0
                        try clear c27
                        try clear c27b0
                        try clear c27b1
                        try clear c28
                        try clear c28b0
                        try clear c28b1
                        try clear p29
                        try clear q29
                        try clear hx29
                        try clear qi29
                        try clear hf29
                        try clear c42
                        try clear c42b0
                        try clear c43
                        try clear c43b0
                        try clear c43b1
                        try clear c44
                        try clear c44b0
                        try clear c44b1
                        try clear p45
                        try clear q45
                        try clear hx45
                        try clear qi45
                        try clear hf45
                        try clear c51
                        try clear c53
                        try clear c53b0
                        try clear c53b1
                        try clear c54
                        try clear c54b0
                        try clear c54b1
                        try clear c63
                        try clear p64
                        try clear c65
                        try clear c65b0
                        try clear c66
                        try clear c66b0
                        try clear c67
                        try clear c67b0
                        try clear c68
                        try clear c68b0
                        try clear c69
                        try clear c69b0
                        try clear c70
                        try clear c70b0
                        try clear c71
                        try clear c71b0
                        try clear c72
                        try clear c72b0
                        try clear p73
                        try clear q73
                        try clear hx73
                        try clear hf73
                        try clear hcz30_0
                        try clear hcz30_1
                        try clear hcz34_0
                        try clear hcz34_1
                        try clear hcz37_0
                        try clear hcz37_1
                        try clear hcz41_0
                        try clear hcz41_1
                        try clear hcz46_0
                        try clear hcz46_1
                        try clear hcz50_0
                        try clear hcz50_1
                        try clear hcz56_0
                        try clear hcz56_1
                        try clear hcz58_0
                        try clear hcz58_1
                        try clear hcz62_0
                        try clear hcz62_1
                        try clear hcz7_0
                        try clear hcz7_1
                        try clear hfz30_0
                        try clear hfz30_1
                        try clear hfz34_0
                        try clear hfz34_1
                        try clear hfz37_0
                        try clear hfz37_1
                        try clear hfz41_0
                        try clear hfz41_1
                        try clear hfz46_0
                        try clear hfz46_1
                        try clear hfz50_0
                        try clear hfz50_1
                        try clear hfz56_0
                        try clear hfz56_1
                        try clear hfz58_0
                        try clear hfz58_1
                        try clear hfz62_0
                        try clear hfz62_1
                        try clear hfz7_0
                        try clear hfz7_1
                        try clear hx17_0
                        try clear hx25_0
                        try clear hx29_0
                        try clear hx45_0
                        try clear hx73_0
                        try clear hx893_0
                        try clear hx894_0
                        try clear hx896_0
                        try clear hx897_0
                        try clear hx899_0
                        try clear hx900_0
                        try clear hx902_0
                        try clear hx903_0
                        try clear hx917_0
                        try clear hx918_0
                        try clear p1
                        try clear p17
                        try clear p2
                        try clear p25
                        try clear p29
                        try clear p4
                        try clear p45
                        try clear p6
                        try clear p64
                        try clear p73
                        try clear p8
                        try clear p893
                        try clear p894
                        try clear p896
                        try clear p897
                        try clear p899
                        try clear p9
                        try clear p900
                        try clear p902
                        try clear p903
                        try clear p917
                        try clear p918
                        try clear q1
                        try clear q17
                        try clear q2
                        try clear q25
                        try clear q29
                        try clear q4
                        try clear q45
                        try clear q73
                        try clear q8
                        try clear q893
                        try clear q894
                        try clear q896
                        try clear q897
                        try clear q899
                        try clear q9
                        try clear q900
                        try clear q902
                        try clear q903
                        try clear q917
                        try clear q918
                        obtain ⟨x6_3, x99_3, rfl, HA, HK3, HO_6, HO_9, HO_10, HO_11, HO_97, BK888, HB⟩ := hrel
                        cases gk with
                        | zero => exact absurd HA.out (by simp [impl_FixedPoints.l3])
                        | succ k3 =>
                          have H := HA.out
                          clear HA
                          simp only [impl_FixedPoints.l3] at H
                          by_cases c76 : x99_3 < (t914.length : Int)
                          · rw [if_pos c76] at H
                            have c76b0 : decide (x99_3 < (t914.length : Int)) = true := decide_eq_true c76
                            clear c76
                            by_cases c77 : 0 ≤ x99_3
                            · rw [if_pos c77] at H
                              have c77b0 : decide (0 ≤ x99_3) = true := decide_eq_true c77
                              clear c77
                              by_cases c78 : x99_3 < (t914.length : Int)
                              · rw [if_pos c78] at H
                                have c78b0 : decide (x99_3 < (t914.length : Int)) = true := decide_eq_true c78
                                clear c78
                                have H' := Aside0.mk H
                                clear H
                                have p920 : 0 ≤ (x99_3 : Int) := of_decide_eq_true (by first | (with_reducible assumption) | assumption)
                                have q920 : x99_3 < (t914.length : Int) := of_decide_eq_true (by first | (with_reducible assumption) | assumption)
                                obtain ⟨ad920, A920_0, c920_0, e920, hx920_0, hl920_0, hi920_0⟩ := at_L3 (Kd.S_reads' HO_97.out).2.2 x99_3 p920 q920
                                cases e920
                                obtain ⟨ce920, hce920, hMe920, hcc920⟩ := Kd.S_get HO_97.out [] x99_3 p920 (by first | exact q920 | exact of_decide_eq_true (by first | (with_reducible assumption) | assumption) | (have e_ := (Kd.S_reads' HO_97.out).1; omega))
                                obtain ⟨ve920_0, rfl, ge920_0⟩ := hMe920
                                have hv920_0 := hcc920 0 _ rfl
                                rw [Nat.add_zero, show ((Kd.slice 3 (Kd.int .i64))).sz = 1 from rfl, Nat.mul_one] at hv920_0
                                replace hv920_0 := Option.some.inj (hv920_0.symm.trans hx920_0)
                                rw [hv920_0] at ge920_0
                                have HL920_0 := Aside0.mk (show Kd.R (Kd.int .i64) 3 _ _ _ _ (rd_L3 t914 x99_3) from ge920_0)
                                clear hv920_0 ge920_0
                                clear hcc920 hce920
                                have HR920_0 := Aside0.mk hi920_0
                                have HC920_0 := Aside0.mk hl920_0
                                clear hi920_0 hl920_0
                                replace p920 := eq_true p920
                                replace q920 := eq_true q920
                                go_wp2
                                go_loopg [19, 106] k3 (fun kq v19 v106 w' => ∃ (x19_4 : Bool) (x106_4 : Int), v19 = .bool x19_4 ∧ v106 = .int .i64 x106_4 ∧ Aside0 (impl_FixedPoints.l4 kq l1 x6_3 t905 t908 x11_2 x99_3 x19_4 t914 (t914.length : Int) x99_3 (rd_L3 t914 x99_3) ((rd_L3 t914 x99_3).length : Int) x106_4 = some (r1, r2)) ∧ Aside0 (kq ≤ k3) ∧ Aside0 (Kd.R (Kd.int .i64) 3 w' w.heap.size (fun k_ => some k_ ≠ (v906 : Value).ownBlock ∧ some k_ ≠ (v909 : Value).ownBlock ∧ some k_ ≠ (v912 : Value).ownBlock) v891 x6_3) ∧ Aside0 (Kd.R (Kd.int .i64) 3 w' w.heap.size (fun k_ => some k_ ≠ (v891 : Value).ownBlock ∧ some k_ ≠ (v909 : Value).ownBlock ∧ some k_ ≠ (v912 : Value).ownBlock) v906 t905) ∧ Aside0 (Kd.R (Kd.int .i64) 3 w' w.heap.size (fun k_ => some k_ ≠ (v891 : Value).ownBlock ∧ some k_ ≠ (v906 : Value).ownBlock ∧ some k_ ≠ (v912 : Value).ownBlock) v909 t908) ∧ Aside0 (Kd.R (Kd.int .i64) 3 w' w.heap.size (fun k_ => some k_ ≠ (v891 : Value).ownBlock ∧ some k_ ≠ (v906 : Value).ownBlock ∧ some k_ ≠ (v909 : Value).ownBlock) v912 x11_2) ∧ Aside0 (Kd.S (Kd.slice 3 (Kd.int .i64)) 29 w' w.heap.size (fun k_ => some k_ ≠ (v891 : Value).ownBlock ∧ some k_ ≠ (v906 : Value).ownBlock ∧ some k_ ≠ (v909 : Value).ownBlock ∧ some k_ ≠ (v912 : Value).ownBlock) (.slice (some ad920) t914.length co64) t914) ∧ Aside0 (w'.heap[gb888]? = some (.cells #[(.slice A0_0 l0_0.length c0_0), (.slice A0_1 l0_1.length c0_1)] 34 (0, 0))) ∧ Aside0 (Kd.C (Kd.int .i64) w' A920_0 (rd_L3 t914 x99_3).length (rd_L3 t914 x99_3)) ∧ Aside0 (Below w.heap.size w w'))
                                case atStart => exact ⟨(true), (0), (by first | rfl | (simp; done) | (simp [*]; done)), (by first | rfl | (simp; done) | (simp [*]; done)), H', ⟨Nat.le_refl _⟩, ⟨by (with_reducible repeat (first | apply Kd.R_alloc | apply Kd.R_drewN | apply Kd.R_drew)); exact HO_6.out⟩, ⟨by (with_reducible repeat (first | apply Kd.R_alloc | apply Kd.R_drewN | apply Kd.R_drew)); exact HO_9.out⟩, ⟨by (with_reducible repeat (first | apply Kd.R_alloc | apply Kd.R_drewN | apply Kd.R_drew)); exact HO_10.out⟩, ⟨by (with_reducible repeat (first | apply Kd.R_alloc | apply Kd.R_drewN | apply Kd.R_drew)); exact HO_11.out⟩, ⟨by (with_reducible repeat (first | apply Kd.S_alloc | apply Kd.S_drewN | apply Kd.S_drew)); exact HO_97.out⟩, ⟨by (with_reducible repeat (first | refine blk_drewN ?_ _ | refine blk_drew ?_ | refine blk_alloc ?_ _)); exact BK888.out⟩, ⟨by repeat (first | (with_reducible exact HR920_0.out) | (with_reducible refine Kd.C_alloc ?_ _) | (with_reducible refine Kd.C_drewN ?_ _) | (with_reducible refine Kd.C_drew ?_) | exact HR920_0.out)⟩, ⟨by repeat (first | (with_reducible first | exact HB.out | apply below_alloc | apply pw_below_drewN | apply below_drew1 | refine below_set ?_ GE888.out) | exact HB.out)⟩⟩
                                case round =>
                                  clear H'
                                  try clear c1
                                  try clear p1
                                  try clear q1
                                  try clear hx1
                                  try clear qi1
                                  try clear c2
                                  try clear p2
                                  try clear q2
                                  try clear hx2
                                  try clear qi2
                                  try clear hf2
                                  try clear c4
                                  try clear p4
                                  try clear q4
                                  try clear hx4
                                  try clear qi4
                                  try clear hf4
                                  try clear c5
                                  try clear c5b0
                                  try clear c5b1
                                  try clear c6
                                  try clear p6
                                  try clear c7
                                  try clear p7
                                  try clear q7
                                  try clear hx7
                                  try clear hf7
                                  try clear c8
                                  try clear p8
                                  try clear q8
                                  try clear hx8
                                  try clear qi8
                                  try clear c9
                                  try clear p9
                                  try clear q9
                                  try clear hx9
                                  try clear qi9
                                  try clear c11
                                  try clear c11b0
                                  try clear c12
                                  try clear c12b0
                                  try clear c13
                                  try clear c13b0
                                  try clear c15
                                  try clear c15b0
                                  try clear c15b1
                                  try clear c16
                                  try clear c16b0
                                  try clear c16b1
                                  try clear p17
                                  try clear q17
                                  try clear hx17
                                  try clear qi17
                                  try clear hf17
                                  try clear c21
                                  try clear c21b0
                                  try clear c22
                                  try clear c22b0
                                  try clear c23
                                  try clear c23b0
                                  try clear c23b1
                                  try clear c24
                                  try clear c24b0
                                  try clear c24b1
                                  try clear p25
                                  try clear q25
                                  try clear hx25
                                  try clear qi25
                                  try clear hf25
                                  try clear c26
                                  try clear c26b0
                                  try clear c27
                                  try clear c27b0
                                  try clear c27b1
                                  try clear c28
                                  try clear c28b0
                                  try clear c28b1
                                  try clear p29
                                  try clear q29
                                  try clear hx29
                                  try clear qi29
                                  try clear hf29
                                  try clear c42
                                  try clear c42b0
                                  try clear c43
                                  try clear c43b0
                                  try clear c43b1
                                  try clear c44
                                  try clear c44b0
                                  try clear c44b1
                                  try clear p45
                                  try clear q45
                                  try clear hx45
                                  try clear qi45
                                  try clear hf45
                                  try clear c51
                                  try clear c53
                                  try clear c53b0
                                  try clear c53b1
                                  try clear c54
                                  try clear c54b0
                                  try clear c54b1
                                  try clear c63
                                  try clear p64
                                  try clear c65
                                  try clear c65b0
                                  try clear c66
                                  try clear c66b0
                                  try clear c67
                                  try clear c67b0
                                  try clear c68
                                  try clear c68b0
                                  try clear c69
                                  try clear c69b0
                                  try clear c70
                                  try clear c70b0
                                  try clear c71
                                  try clear c71b0
                                  try clear c72
                                  try clear c72b0
                                  try clear p73
                                  try clear q73
                                  try clear hx73
                                  try clear hf73
                                  try clear c76
                                  try clear c76b0
                                  try clear c77
                                  try clear c77b0
                                  try clear c78
                                  try clear c78b0
                                  try clear hcz30_0
                                  try clear hcz30_1
                                  try clear hcz34_0
                                  try clear hcz34_1
                                  try clear hcz37_0
                                  try clear hcz37_1
                                  try clear hcz41_0
                                  try clear hcz41_1
                                  try clear hcz46_0
                                  try clear hcz46_1
                                  try clear hcz50_0
                                  try clear hcz50_1
                                  try clear hcz56_0
                                  try clear hcz56_1
                                  try clear hcz58_0
                                  try clear hcz58_1
                                  try clear hcz62_0
                                  try clear hcz62_1
                                  try clear hcz7_0
                                  try clear hcz7_1
                                  try clear hfz30_0
                                  try clear hfz30_1
                                  try clear hfz34_0
                                  try clear hfz34_1
                                  try clear hfz37_0
                                  try clear hfz37_1
                                  try clear hfz41_0
                                  try clear hfz41_1
                                  try clear hfz46_0
                                  try clear hfz46_1
                                  try clear hfz50_0
                                  try clear hfz50_1
                                  try clear hfz56_0
                                  try clear hfz56_1
                                  try clear hfz58_0
                                  try clear hfz58_1
                                  try clear hfz62_0
                                  try clear hfz62_1
                                  try clear hfz7_0
                                  try clear hfz7_1
                                  try clear hx17_0
                                  try clear hx25_0
                                  try clear hx29_0
                                  try clear hx45_0
                                  try clear hx73_0
                                  try clear hx893_0
                                  try clear hx894_0
                                  try clear hx896_0
                                  try clear hx897_0
                                  try clear hx899_0
                                  try clear hx900_0
                                  try clear hx902_0
                                  try clear hx903_0
                                  try clear hx917_0
                                  try clear hx918_0
                                  try clear hx920_0
                                  try clear p1
                                  try clear p17
                                  try clear p2
                                  try clear p25
                                  try clear p29
                                  try clear p4
                                  try clear p45
                                  try clear p6
                                  try clear p64
                                  try clear p7
                                  try clear p73
                                  try clear p8
                                  try clear p893
                                  try clear p894
                                  try clear p896
                                  try clear p897
                                  try clear p899
                                  try clear p9
                                  try clear p900
                                  try clear p902
                                  try clear p903
                                  try clear p917
                                  try clear p918
                                  try clear p920
                                  try clear q1
                                  try clear q17
                                  try clear q2
                                  try clear q25
                                  try clear q29
                                  try clear q4
                                  try clear q45
                                  try clear q7
                                  try clear q73
                                  try clear q8
                                  try clear q893
                                  try clear q894
                                  try clear q896
                                  try clear q897
                                  try clear q899
                                  try clear q9
                                  try clear q900
                                  try clear q902
                                  try clear q903
                                  try clear q917
                                  try clear q918
                                  try clear q920
                                  obtain ⟨x19_4, x106_4, rfl, rfl, HA, HK4, HO_6, HO_9, HO_10, HO_11, HO_97, BK888, HR920_0, HB⟩ := hrel
                                  cases gk with
                                  | zero => exact absurd HA.out (by simp [impl_FixedPoints.l4])
                                  | succ k4 =>
                                    have H := HA.out
                                    clear HA
                                    simp only [impl_FixedPoints.l4] at H
                                    by_cases c79 : x106_4 < ((rd_L3 t914 x99_3).length : Int)
                                    · rw [if_pos c79] at H
                                      have c79b0 : decide (x106_4 < ((rd_L3 t914 x99_3).length : Int)) = true := decide_eq_true c79
                                      clear c79
                                      by_cases c80 : 0 ≤ x106_4
                                      · rw [if_pos c80] at H
                                        have c80b0 : decide (0 ≤ x106_4) = true := decide_eq_true c80
                                        clear c80
                                        by_cases c81 : x106_4 < ((rd_L3 t914 x99_3).length : Int)
                                        · rw [if_pos c81] at H
                                          have c81b0 : decide (x106_4 < ((rd_L3 t914 x99_3).length : Int)) = true := decide_eq_true c81
                                          clear c81
                                          by_cases c82 : x19_4 = true
                                          · subst c82
                                            have H1 : (if 0 ≤ (rd (rd_L3 t914 x99_3) x106_4) then (if (rd (rd_L3 t914 x99_3) x106_4) < (l1.length : Int) then (if 0 ≤ (rd l1 (rd (rd_L3 t914 x99_3) x106_4)) then (if (rd l1 (rd (rd_L3 t914 x99_3) x106_4)) < (t905.length : Int) then (if 0 ≤ (rd t905 (rd l1 (rd (rd_L3 t914 x99_3) x106_4))) then (if (rd t905 (rd l1 (rd (rd_L3 t914 x99_3) x106_4))) < (t908.length : Int) then (if 0 ≤ (rd t908 (rd t905 (rd l1 (rd (rd_L3 t914 x99_3) x106_4)))) then (if (rd t908 (rd t905 (rd l1 (rd (rd_L3 t914 x99_3) x106_4)))) < (x11_2.length : Int) then (impl_FixedPoints.l4 k4 l1 x6_3 t905 t908 x11_2 x99_3 ((rd x11_2 (rd t908 (rd t905 (rd l1 (rd (rd_L3 t914 x99_3) x106_4))))) == x99_3) t914 (t914.length : Int) x99_3 (rd_L3 t914 x99_3) ((rd_L3 t914 x99_3).length : Int) (wrap64 (x106_4 + 1))) else (none)) else (none)) else (none)) else (none)) else (none)) else (none)) else (none)) else (none)) = some (r1, r2) := by rw [if_pos rfl] at H; exact H
                                            clear H
                                            have H := H1
                                            clear H1
                                            by_cases c83 : 0 ≤ (rd (rd_L3 t914 x99_3) x106_4)
                                            · rw [if_pos c83] at H
                                              have c83b0 : decide (0 ≤ (rd (rd_L3 t914 x99_3) x106_4)) = true := decide_eq_true c83
                                              clear c83
                                              by_cases c84 : (rd (rd_L3 t914 x99_3) x106_4) < (l1.length : Int)
                                              · rw [if_pos c84] at H
                                                have c84b0 : decide ((rd (rd_L3 t914 x99_3) x106_4) < (l1.length : Int)) = true := decide_eq_true c84
                                                clear c84
                                                by_cases c85 : 0 ≤ (rd l1 (rd (rd_L3 t914 x99_3) x106_4))
                                                · rw [if_pos c85] at H
                                                  have c85b0 : decide (0 ≤ (rd l1 (rd (rd_L3 t914 x99_3) x106_4))) = true := decide_eq_true c85
                                                  clear c85
                                                  by_cases c86 : (rd l1 (rd (rd_L3 t914 x99_3) x106_4)) < (t905.length : Int)
                                                  · rw [if_pos c86] at H
                                                    have c86b0 : decide ((rd l1 (rd (rd_L3 t914 x99_3) x106_4)) < (t905.length : Int)) = true := decide_eq_true c86
                                                    clear c86
                                                    by_cases c87 : 0 ≤ (rd t905 (rd l1 (rd (rd_L3 t914 x99_3) x106_4)))
                                                    · rw [if_pos c87] at H
                                                      have c87b0 : decide (0 ≤ (rd t905 (rd l1 (rd (rd_L3 t914 x99_3) x106_4)))) = true := decide_eq_true c87
                                                      clear c87
                                                      by_cases c88 : (rd t905 (rd l1 (rd (rd_L3 t914 x99_3) x106_4))) < (t908.length : Int)
                                                      · rw [if_pos c88] at H
                                                        have c88b0 : decide ((rd t905 (rd l1 (rd (rd_L3 t914 x99_3) x106_4))) < (t908.length : Int)) = true := decide_eq_true c88
                                                        clear c88
                                                        by_cases c89 : 0 ≤ (rd t908 (rd t905 (rd l1 (rd (rd_L3 t914 x99_3) x106_4))))
                                                        · rw [if_pos c89] at H
                                                          have c89b0 : decide (0 ≤ (rd t908 (rd t905 (rd l1 (rd (rd_L3 t914 x99_3) x106_4))))) = true := decide_eq_true c89
                                                          clear c89
                                                          by_cases c90 : (rd t908 (rd t905 (rd l1 (rd (rd_L3 t914 x99_3) x106_4)))) < (x11_2.length : Int)
                                                          · rw [if_pos c90] at H
                                                            have c90b0 : decide ((rd t908 (rd t905 (rd l1 (rd (rd_L3 t914 x99_3) x106_4)))) < (x11_2.length : Int)) = true := decide_eq_true c90
                                                            clear c90
                                                            have H' := Aside0.mk H
                                                            clear H
                                                            have p921 : 0 ≤ (x106_4 : Int) := of_decide_eq_true (by first | (with_reducible assumption) | assumption)
                                                            have q921 : x106_4 < ((rd_L3 t914 x99_3).length : Int) := of_decide_eq_true (by first | (with_reducible assumption) | assumption)
                                                            obtain ⟨ad921, e921, hx921_0⟩ := Kd.at_int HR920_0.out x106_4 p921 q921
                                                            cases e921
                                                            (try replace hx921_0 := (HB.out.cell (World.block_lt_of_cell? w _ hx921_0)).trans hx921_0)
                                                            replace p921 := eq_true p921
                                                            replace q921 := eq_true q921
                                                            have p922 : 0 ≤ ((rd (rd_L3 t914 x99_3) x106_4) : Int) := of_decide_eq_true (by first | (with_reducible assumption) | assumption)
                                                            have q922 : (rd (rd_L3 t914 x99_3) x106_4) < (l1.length : Int) := of_decide_eq_true (by first | (with_reducible assumption) | assumption)
                                                            obtain ⟨ad922, e922, hx922_0⟩ := Kd.at_int HR1.out (rd (rd_L3 t914 x99_3) x106_4) p922 q922
                                                            cases e922
                                                            (try replace hx922_0 := (HB.out.cell (World.block_lt_of_cell? w _ hx922_0)).trans hx922_0)
                                                            replace p922 := eq_true p922
                                                            replace q922 := eq_true q922
                                                            obtain ⟨Ao91, co91, eo91⟩ := Kd.R_slice HO_9.out
                                                            subst eo91
                                                            have p923 : 0 ≤ ((rd l1 (rd (rd_L3 t914 x99_3) x106_4)) : Int) := of_decide_eq_true (by first | (with_reducible assumption) | assumption)
                                                            have q923 : (rd l1 (rd (rd_L3 t914 x99_3) x106_4)) < (t905.length : Int) := of_decide_eq_true (by first | (with_reducible assumption) | assumption)
                                                            obtain ⟨ad923, e923, hx923_0⟩ := Kd.at_int (Kd.R_reads' HO_9.out).2.2 (rd l1 (rd (rd_L3 t914 x99_3) x106_4)) p923 q923
                                                            cases e923
                                                            replace p923 := eq_true p923
                                                            replace q923 := eq_true q923
                                                            obtain ⟨Ao92, co92, eo92⟩ := Kd.R_slice HO_10.out
                                                            subst eo92
                                                            have p924 : 0 ≤ ((rd t905 (rd l1 (rd (rd_L3 t914 x99_3) x106_4))) : Int) := of_decide_eq_true (by first | (with_reducible assumption) | assumption)
                                                            have q924 : (rd t905 (rd l1 (rd (rd_L3 t914 x99_3) x106_4))) < (t908.length : Int) := of_decide_eq_true (by first | (with_reducible assumption) | assumption)
                                                            obtain ⟨ad924, e924, hx924_0⟩ := Kd.at_int (Kd.R_reads' HO_10.out).2.2 (rd t905 (rd l1 (rd (rd_L3 t914 x99_3) x106_4))) p924 q924
                                                            cases e924
                                                            replace p924 := eq_true p924
                                                            replace q924 := eq_true q924
                                                            obtain ⟨Ao93, co93, eo93⟩ := Kd.R_slice HO_11.out
                                                            subst eo93
                                                            have p925 : 0 ≤ ((rd t908 (rd t905 (rd l1 (rd (rd_L3 t914 x99_3) x106_4)))) : Int) := of_decide_eq_true (by first | (with_reducible assumption) | assumption)
                                                            have q925 : (rd t908 (rd t905 (rd l1 (rd (rd_L3 t914 x99_3) x106_4)))) < (x11_2.length : Int) := of_decide_eq_true (by first | (with_reducible assumption) | assumption)
                                                            obtain ⟨ad925, e925, hx925_0⟩ := Kd.at_int (Kd.R_reads' HO_11.out).2.2 (rd t908 (rd t905 (rd l1 (rd (rd_L3 t914 x99_3) x106_4)))) p925 q925
                                                            cases e925
                                                            replace p925 := eq_true p925
                                                            replace q925 := eq_true q925
                                                            go_wp2
                                                            go_roundg k4
                                                            case measure => have := HK1.out; have := HK2.out; have := HK3.out; have := HK4.out; omega
                                                            case rel => exact ⟨(((rd x11_2 (rd t908 (rd t905 (rd l1 (rd (rd_L3 t914 x99_3) x106_4))))) == x99_3)), (wrap64 (x106_4 + 1)), (by first | rfl | (simp; done) | (simp [*]; done)), (by first | rfl | (simp; done) | (simp [*]; done)), H', ⟨by have := HK1.out; have := HK2.out; have := HK3.out; have := HK4.out; omega⟩, ⟨by (with_reducible repeat (first | apply Kd.R_alloc | apply Kd.R_drewN | apply Kd.R_drew)); exact HO_6.out⟩, ⟨by (with_reducible repeat (first | apply Kd.R_alloc | apply Kd.R_drewN | apply Kd.R_drew)); exact HO_9.out⟩, ⟨by (with_reducible repeat (first | apply Kd.R_alloc | apply Kd.R_drewN | apply Kd.R_drew)); exact HO_10.out⟩, ⟨by (with_reducible repeat (first | apply Kd.R_alloc | apply Kd.R_drewN | apply Kd.R_drew)); exact HO_11.out⟩, ⟨by (with_reducible repeat (first | apply Kd.S_alloc | apply Kd.S_drewN | apply Kd.S_drew)); exact HO_97.out⟩, ⟨by (with_reducible repeat (first | refine blk_drewN ?_ _ | refine blk_drew ?_ | refine blk_alloc ?_ _)); exact BK888.out⟩, ⟨by repeat (first | (with_reducible exact HR920_0.out) | (with_reducible refine Kd.C_alloc ?_ _) | (with_reducible refine Kd.C_drewN ?_ _) | (with_reducible refine Kd.C_drew ?_) | exact HR920_0.out)⟩, ⟨by repeat (first | (with_reducible first | exact HB.out | apply below_alloc | apply pw_below_drewN | apply below_drew1 | refine below_set ?_ GE888.out) | exact HB.out)⟩⟩
                                                          · rw [if_neg c90] at H
                                                            exact absurd H (by simp)
                                                        · rw [if_neg c89] at H
                                                          exact absurd H (by simp)
                                                      · rw [if_neg c88] at H
                                                        exact absurd H (by simp)
                                                    · rw [if_neg c87] at H
                                                      exact absurd H (by simp)
                                                  · rw [if_neg c86] at H
                                                    exact absurd H (by simp)
                                                · rw [if_neg c85] at H
                                                  exact absurd H (by simp)
                                              · rw [if_neg c84] at H
                                                exact absurd H (by simp)
                                            · rw [if_neg c83] at H
                                              exact absurd H (by simp)
                                          · replace c82 := Bool.eq_false_iff.mpr c82
                                            subst c82
                                            have H1 : (impl_FixedPoints.l4 k4 l1 x6_3 t905 t908 x11_2 x99_3 false t914 (t914.length : Int) x99_3 (rd_L3 t914 x99_3) ((rd_L3 t914 x99_3).length : Int) (wrap64 (x106_4 + 1))) = some (r1, r2) := by rw [if_neg (show ¬ (false = true) by decide)] at H; exact H
                                            clear H
                                            have H := H1
                                            clear H1
                                            have H' := Aside0.mk H
                                            clear H
                                            have p921 : 0 ≤ (x106_4 : Int) := of_decide_eq_true (by first | (with_reducible assumption) | assumption)
                                            have q921 : x106_4 < ((rd_L3 t914 x99_3).length : Int) := of_decide_eq_true (by first | (with_reducible assumption) | assumption)
                                            obtain ⟨ad921, e921, hx921_0⟩ := Kd.at_int HR920_0.out x106_4 p921 q921
                                            cases e921
                                            (try replace hx921_0 := (HB.out.cell (World.block_lt_of_cell? w _ hx921_0)).trans hx921_0)
                                            replace p921 := eq_true p921
                                            replace q921 := eq_true q921
                                            go_wp2
                                            go_roundg k4
                                            case measure => have := HK1.out; have := HK2.out; have := HK3.out; have := HK4.out; omega
                                            case rel => exact ⟨(false), (wrap64 (x106_4 + 1)), (by first | rfl | (simp; done) | (simp [*]; done)), (by first | rfl | (simp; done) | (simp [*]; done)), H', ⟨by have := HK1.out; have := HK2.out; have := HK3.out; have := HK4.out; omega⟩, ⟨by (with_reducible repeat (first | apply Kd.R_alloc | apply Kd.R_drewN | apply Kd.R_drew)); exact HO_6.out⟩, ⟨by (with_reducible repeat (first | apply Kd.R_alloc | apply Kd.R_drewN | apply Kd.R_drew)); exact HO_9.out⟩, ⟨by (with_reducible repeat (first | apply Kd.R_alloc | apply Kd.R_drewN | apply Kd.R_drew)); exact HO_10.out⟩, ⟨by (with_reducible repeat (first | apply Kd.R_alloc | apply Kd.R_drewN | apply Kd.R_drew)); exact HO_11.out⟩, ⟨by (with_reducible repeat (first | apply Kd.S_alloc | apply Kd.S_drewN | apply Kd.S_drew)); exact HO_97.out⟩, ⟨by (with_reducible repeat (first | refine blk_drewN ?_ _ | refine blk_drew ?_ | refine blk_alloc ?_ _)); exact BK888.out⟩, ⟨by repeat (first | (with_reducible exact HR920_0.out) | (with_reducible refine Kd.C_alloc ?_ _) | (with_reducible refine Kd.C_drewN ?_ _) | (with_reducible refine Kd.C_drew ?_) | exact HR920_0.out)⟩, ⟨by repeat (first | (with_reducible first | exact HB.out | apply below_alloc | apply pw_below_drewN | apply below_drew1 | refine below_set ?_ GE888.out) | exact HB.out)⟩⟩
                                        · rw [if_neg c81] at H
                                          exact absurd H (by simp)
                                      · rw [if_neg c80] at H
                                        exact absurd H (by simp)
                                    · rw [if_neg c79] at H
                                      have c79b0 : decide (x106_4 < ((rd_L3 t914 x99_3).length : Int)) = false := decide_eq_false c79
                                      clear c79
                                      by_cases c94 : x19_4 = true
                                      · subst c94
                                        have H1 : (if 3 < (x6_3.length : Int) then (impl_FixedPoints.l3 k4 l1 (x6_3.set (3 : Int).toNat (wrap64 ((rd x6_3 3) + 1))) t905 t908 x11_2 t914 (t914.length : Int) (wrap64 (x99_3 + 1))) else (none)) = some (r1, r2) := by rw [if_pos rfl] at H; exact H
                                        clear H
                                        have H := H1
                                        clear H1
                                        by_cases c95 : 3 < (x6_3.length : Int)
                                        · rw [if_pos c95] at H
                                          have c95b0 : decide (3 < (x6_3.length : Int)) = true := decide_eq_true c95
                                          have c95b1 : decide (3 < x6_3.length) = true := decide_eq_true (by omega)
                                          clear c95
                                          obtain ⟨y927, hy927⟩ : ∃ y_ : List Int, y_ = (x6_3.set (3 : Int).toNat (wrap64 ((rd x6_3 3) + 1))) := ⟨_, rfl⟩
                                          replace H : (impl_FixedPoints.l3 k4 l1 y927 t905 t908 x11_2 t914 (t914.length : Int) (wrap64 (x99_3 + 1))) = some (r1, r2) := by first | (rw [hy927]; with_reducible exact H) | (have H2_ := (Option.bind_some _ _).symm.trans H; rw [hy927]; with_reducible exact H2_) | (have H2_ := (Option.bind_some _ _).symm.trans H; with_reducible exact H2_) | with_reducible exact H | (rw [hy927]; exact H) | exact H
                                          have Ny927 := Aside0.mk hy927
                                          clear hy927
                                          have H' := Aside0.mk H
                                          clear H
                                          obtain ⟨Ao97, co97, eo97⟩ := Kd.R_slice HO_6.out
                                          subst eo97
                                          have p926 : 0 ≤ (3 : Int) := (by omega)
                                          have q926 : 3 < (x6_3.length : Int) := of_decide_eq_true (by first | (with_reducible assumption) | assumption)
                                          obtain ⟨ad926, e926, hx926_0⟩ := Kd.at_int (Kd.R_reads' HO_6.out).2.2 3 p926 q926
                                          cases e926
                                          (try simp only [show (3 : Int).toNat = 3 from rfl, Nat.reduceMul, Nat.reduceEqDiff, Go.Addr.add, ↓reduceIte] at hx926_0)
                                          have qi926 : (3 < x6_3.length) = True := eq_true (by omega)
                                          (try rw [show ((3 : Int)).toNat = 3 from rfl] at hx926_0)
                                          replace p926 := eq_true p926
                                          replace q926 := eq_true q926
                                          have p96 : 0 ≤ (3 : Int) := (by omega)
                                          have q96 : (3 : Int) < ((x6_3.length : Int) : Int) := of_decide_eq_true (by first | (with_reducible assumption) | assumption)
                                          have qi96 : (3 < x6_3.length) = True := eq_true (by omega)
                                          obtain ⟨go96, co96, eo96, gb96, gl96, cl96, HG96⟩ := Kd.R_form HO_6.out (by omega)
                                          (first | cases eo96 | (injection eo96 with ea_ en_ ec_; (first | subst ea_ | (injection ea_ with ea_; subst ea_)); subst ec_; clear en_))
                                          have GB96 := Aside0.mk gb96
                                          have GG96 := Aside0.mk HG96
                                          clear gb96 gl96 HG96
                                          (first | simp only [add_plain] at hx926_0 | skip)
                                          obtain ⟨hx96_0, hf96_0⟩ := Kd.R_celln 0 HO_6.out (3 : Int) p96 q96
                                          (try rw [show ((3 : Int)).toNat = 3 from rfl] at hx96_0)
                                          (try simp only [Nat.reduceMul, Nat.zero_mul, Nat.zero_add, Nat.reduceAdd] at hx96_0)
                                          (try rw [show ((3 : Int)).toNat = 3 from rfl] at hf96_0)
                                          (try simp only [Nat.reduceMul, Nat.zero_mul, Nat.zero_add, Nat.reduceAdd] at hf96_0)
                                          replace p96 := eq_true p96
                                          replace q96 := eq_true q96
                                          have HP98 := Kd.R_putg HO_6.out (3 : Int) (wrap64 ((rd x6_3 3) + 1))
                                          go_wp2_with (first | ((with_reducible refine gate_store (t := 3) (p := 134) rfl ?_); refine store_event (t := 3) (p := 134) (v := ?vo_w99) (w1 := (wr.setCell ⟨go96, (3 : Int).toNat, none⟩ (.int .i64 (wrap64 ((rd x6_3 3) + 1))))) ?hg ?ho ?hn ?hr ?_; (case ho => rfl); (case hg => rfl); (case hn => rfl); (case hr => first | (go_simp; done) | (go_simp; rfl)); intro w99 hw; have hg : wr.grownBy w99 (some go96) := (by rw [hw]; exact HP98.2); have hp_ : Kd.R (Kd.int .i64) 3 w99 w.heap.size (fun k_ => some k_ ≠ (v906 : Value).ownBlock ∧ some k_ ≠ (v909 : Value).ownBlock ∧ some k_ ≠ (v912 : Value).ownBlock) (.slice (some ⟨go96, 0, none⟩) x6_3.length co97) y927 := (by rw [hw, Ny927.out]; exact HP98.1); clear HP98; have n0_ := Aside0.mk (hp_); have n1_ := Aside0.mk (Kd.R_after (v := (.slice (some ⟨go96, 0, none⟩) x6_3.length co97)) (v1 := (.slice (some ⟨go96, 0, none⟩) x6_3.length co97)) (ok := (fun k_ => some k_ ≠ (v909 : Value).ownBlock ∧ some k_ ≠ (v912 : Value).ownBlock)) (by (with_reducible repeat (first | apply Kd.R_alloc | apply Kd.R_drewN | apply Kd.R_drew)); exact Kd.R_mono HO_9.out (fun _ hk => ⟨⟨hk.2.1, hk.2.2⟩, hk.1⟩)) hg (.inl rfl)); have n2_ := Aside0.mk (Kd.R_after (v := (.slice (some ⟨go96, 0, none⟩) x6_3.length co97)) (v1 := (.slice (some ⟨go96, 0, none⟩) x6_3.length co97)) (ok := (fun k_ => some k_ ≠ (v906 : Value).ownBlock ∧ some k_ ≠ (v912 : Value).ownBlock)) (by (with_reducible repeat (first | apply Kd.R_alloc | apply Kd.R_drewN | apply Kd.R_drew)); exact Kd.R_mono HO_10.out (fun _ hk => ⟨⟨hk.2.1, hk.2.2⟩, hk.1⟩)) hg (.inl rfl)); have n3_ := Aside0.mk (Kd.R_after (v := (.slice (some ⟨go96, 0, none⟩) x6_3.length co97)) (v1 := (.slice (some ⟨go96, 0, none⟩) x6_3.length co97)) (ok := (fun k_ => some k_ ≠ (v906 : Value).ownBlock ∧ some k_ ≠ (v909 : Value).ownBlock)) (by (with_reducible repeat (first | apply Kd.R_alloc | apply Kd.R_drewN | apply Kd.R_drew)); exact Kd.R_mono HO_11.out (fun _ hk => ⟨⟨hk.2.1, hk.2.2⟩, hk.1⟩)) hg (.inl rfl)); have n4_ := Aside0.mk (Kd.S_after (v := (.slice (some ⟨go96, 0, none⟩) x6_3.length co97)) (v1 := (.slice (some ⟨go96, 0, none⟩) x6_3.length co97)) (ok := (fun k_ => some k_ ≠ (v906 : Value).ownBlock ∧ some k_ ≠ (v909 : Value).ownBlock ∧ some k_ ≠ (v912 : Value).ownBlock)) (by (with_reducible repeat (first | apply Kd.S_alloc | apply Kd.S_drewN | apply Kd.S_drew)); exact Kd.S_mono HO_97.out (fun _ hk => ⟨⟨hk.2.1, ⟨hk.2.2.1, hk.2.2.2⟩⟩, hk.1⟩)) hg (.inl rfl)); have n5_ := Aside0.mk (blk_grown (g := gb888) (o := .cells #[.slice A0_0 l0_0.length c0_0, .slice A0_1 l0_1.length c0_1] 34 (0, 0)) (by (with_reducible repeat (first | refine blk_drewN ?_ _ | refine blk_drew ?_ | refine blk_alloc ?_ _)); exact BK888.out) hg (Kd.R_ne HO_6.out BK888.out (by decide))); have n6_ := Aside0.mk ((by rw [hw]; exact below_set (HB.out) GB96.out : Below w.heap.size w w99)); clear HO_6; clear HO_9; clear HO_10; clear HO_11; clear HO_97; clear BK888; clear HB; have HO_6 := n0_; have HO_9 := n1_; have HO_10 := n2_; have HO_11 := n3_; have HO_97 := n4_; have BK888 := n5_; have HB := n6_; clear n0_ n1_ n2_ n3_ n4_ n5_ n6_; clear hg hw hp_))
                                          go_roundg k4
                                          case measure => have := HK1.out; have := HK2.out; have := HK3.out; have := HK4.out; omega
                                          case rel => exact ⟨(y927), (wrap64 (x99_3 + 1)), (by first | rfl | (simp; done) | (simp [*]; done)), H', ⟨by have := HK1.out; have := HK2.out; have := HK3.out; have := HK4.out; omega⟩, ⟨by (with_reducible repeat (first | apply Kd.R_alloc | apply Kd.R_drewN | apply Kd.R_drew)); exact HO_6.out⟩, ⟨by (with_reducible repeat (first | apply Kd.R_alloc | apply Kd.R_drewN | apply Kd.R_drew)); exact Kd.R_mono HO_9.out (fun _ hk => ⟨hk.2, ⟨hk.1.1, hk.1.2⟩⟩)⟩, ⟨by (with_reducible repeat (first | apply Kd.R_alloc | apply Kd.R_drewN | apply Kd.R_drew)); exact Kd.R_mono HO_10.out (fun _ hk => ⟨hk.2, ⟨hk.1.1, hk.1.2⟩⟩)⟩, ⟨by (with_reducible repeat (first | apply Kd.R_alloc | apply Kd.R_drewN | apply Kd.R_drew)); exact Kd.R_mono HO_11.out (fun _ hk => ⟨hk.2, ⟨hk.1.1, hk.1.2⟩⟩)⟩, ⟨by (with_reducible repeat (first | apply Kd.S_alloc | apply Kd.S_drewN | apply Kd.S_drew)); exact Kd.S_mono HO_97.out (fun _ hk => ⟨hk.2, ⟨hk.1.1, ⟨hk.1.2.1, hk.1.2.2⟩⟩⟩)⟩, ⟨by (with_reducible repeat (first | refine blk_drewN ?_ _ | refine blk_drew ?_ | refine blk_alloc ?_ _)); exact BK888.out⟩, ⟨by repeat (first | (with_reducible first | exact HB.out | apply below_alloc | apply pw_below_drewN | apply below_drew1 | refine below_set ?_ GE888.out) | exact HB.out)⟩⟩
                                        · rw [if_neg c95] at H
                                          exact absurd H (by simp)
                                      · replace c94 := Bool.eq_false_iff.mpr c94
                                        subst c94
                                        have H1 : (impl_FixedPoints.l3 k4 l1 x6_3 t905 t908 x11_2 t914 (t914.length : Int) (wrap64 (x99_3 + 1))) = some (r1, r2) := by rw [if_neg (show ¬ (false = true) by decide)] at H; exact H
                                        clear H
                                        have H := H1
                                        clear H1
                                        have H' := Aside0.mk H
                                        clear H
                                        go_wp2
                                        go_roundg k4
                                        case measure => have := HK1.out; have := HK2.out; have := HK3.out; have := HK4.out; omega
                                        case rel => exact ⟨(x6_3), (wrap64 (x99_3 + 1)), (by first | rfl | (simp; done) | (simp [*]; done)), H', ⟨by have := HK1.out; have := HK2.out; have := HK3.out; have := HK4.out; omega⟩, ⟨by (with_reducible repeat (first | apply Kd.R_alloc | apply Kd.R_drewN | apply Kd.R_drew)); exact HO_6.out⟩, ⟨by (with_reducible repeat (first | apply Kd.R_alloc | apply Kd.R_drewN | apply Kd.R_drew)); exact HO_9.out⟩, ⟨by (with_reducible repeat (first | apply Kd.R_alloc | apply Kd.R_drewN | apply Kd.R_drew)); exact HO_10.out⟩, ⟨by (with_reducible repeat (first | apply Kd.R_alloc | apply Kd.R_drewN | apply Kd.R_drew)); exact HO_11.out⟩, ⟨by (with_reducible repeat (first | apply Kd.S_alloc | apply Kd.S_drewN | apply Kd.S_drew)); exact HO_97.out⟩, ⟨by (with_reducible repeat (first | refine blk_drewN ?_ _ | refine blk_drew ?_ | refine blk_alloc ?_ _)); exact BK888.out⟩, ⟨by repeat (first | (with_reducible first | exact HB.out | apply below_alloc | apply pw_below_drewN | apply below_drew1 | refine below_set ?_ GE888.out) | exact HB.out)⟩⟩
                              · rw [if_neg c78] at H
                                exact absurd H (by simp)
                            · rw [if_neg c77] at H
                              exact absurd H (by simp)
                          · rw [if_neg c76] at H
                            have c76b0 : decide (x99_3 < (t914.length : Int)) = false := decide_eq_false c76
                            clear c76
                            simp only [Option.some.injEq, Prod.mk.injEq] at H
                            obtain ⟨rfl, rfl⟩ := H
                            go_wp2
                            go_ret2
                            exact ⟨_, by first | rfl | (simp [errW_none, errW_some] <;> rfl) | (simp [*, errW_none, errW_some] <;> rfl), by (with_reducible repeat (first | apply Kd.R_alloc | apply Kd.R_drewN | apply Kd.R_drew)); exact Kd.R_mono HO_6.out (fun _ hk => trivial), by repeat (first | (with_reducible first | exact HB.out | apply below_alloc | apply pw_below_drewN | apply below_drew1 | refine below_set ?_ GE888.out) | exact HB.out)⟩
              · rw [if_neg c54] at H
                exact absurd H (by simp)
            · rw [if_neg c53] at H
              exact absurd H (by simp)
    · rw [if_neg c5] at H
      exact absurd H (by simp)
  · replace c4 := Bool.eq_false_iff.mpr c4
    subst c4
    have H1 : (some (([] : List Int), false)) = some (r1, r2) := by rw [if_neg (show ¬ (false = true) by decide)] at H; exact H
    clear H
    have H := H1
    clear H1
    simp only [Option.some.injEq, Prod.mk.injEq] at H
    obtain ⟨rfl, rfl⟩ := H
    go_enter Try.func51, Try.ntmps51
    go_wp2_with (first | ((with_reducible refine gate_dst (N := 2) rfl ?_); refine box_event ?hg (N := 2) ?hd (cs := #[.slice A0_0 l0_0.length c0_0, .slice A0_1 l0_1.length c0_1]) (t := 34) ?hr ?_; (case hd => rfl); (case hg => rfl); (case hr => first | (go_simp; done) | (go_simp; rfl)); intro gb888 hg w100 hbox hb; have n0_ := Aside0.mk (below_step (by repeat (first | (with_reducible first | exact HB.out | apply below_alloc | apply pw_below_drewN | apply below_drew1) | exact HB.out)) hb); have n1_ := Aside0.mk (hbox); have n2_ := Aside0.mk ((by rw [hg]; exact (below_size (by repeat (first | (with_reducible first | exact HB.out | apply below_alloc | apply pw_below_drewN | apply below_drew1) | exact HB.out))) : w.heap.size ≤ gb888)); have n3_ := Aside0.mk ((by rw [hg]; exact (below_size (by repeat (first | (with_reducible first | exact HB.out | apply below_alloc | apply pw_below_drewN | apply below_drew1) | exact HB.out))) : w.heap.size ≤ gb888)); clear HB; have HB := n0_; have BK888 := n1_; have GW888 := n2_; have GE888 := n3_; clear n0_ n1_ n2_ n3_; clear hb hbox hg; have hcz101_0 : w100.cell? ⟨gb888, 0, none⟩ = some (.slice A0_0 l0_0.length c0_0) := (blk_cell BK888.out 0).trans rfl; have hcz101_1 : w100.cell? ⟨gb888, 1, none⟩ = some (.slice A0_1 l0_1.length c0_1) := (blk_cell BK888.out 1).trans rfl; have hfz101_0 := blk_frozen BK888.out 0; have hfz101_1 := blk_frozen BK888.out 1) | ((with_reducible refine gate_callee (f := 24) rfl ?_); refine goesL_ (some 24) rfl rfl Try.func24 (by kernel_rfl) rfl #[.agg #[.slice A0_0 l0_0.length c0_0, .slice A0_1 l0_1.length c0_1], .slice A1 l1.length c1] rfl (by (try simp only [List.map_toArray, List.map_cons, List.map_nil]); first | done | rfl | (simp only [List.length_drop, List.length_take]; rfl)) ?_; (with_reducible refine (impl_IsTurn.calls k _ _ l0_0 _ _ l0_1 _ _ l1 false _ ?side1 ?side2 ?side3 ?side4 ?side5 ?side6 A3.out).mono ?_); (case side1 => repeat (first | exact (Kd.C_below HR0_0.out HB.out) | (with_reducible refine Kd.C_alloc ?_ _) | (with_reducible refine Kd.C_drewN ?_ _) | (with_reducible refine Kd.C_drew ?_))); (case side2 => exact HC0_0.out); (case side3 => repeat (first | exact (Kd.C_below HR0_1.out HB.out) | (with_reducible refine Kd.C_alloc ?_ _) | (with_reducible refine Kd.C_drewN ?_ _) | (with_reducible refine Kd.C_drew ?_))); (case side4 => exact HC0_1.out); (case side5 => repeat (first | exact (Kd.C_below HR1.out HB.out) | (with_reducible refine Kd.C_alloc ?_ _) | (with_reducible refine Kd.C_drewN ?_ _) | (with_reducible refine Kd.C_drew ?_))); (case side6 => exact HC1.out); rintro e w102 ⟨rfl, hb⟩; refine ⟨_, rfl, ?_⟩; have n0_ := Aside0.mk (blk_below (g := gb888) (o := .cells #[.slice A0_0 l0_0.length c0_0, .slice A0_1 l0_1.length c0_1] 34 (0, 0)) (by (with_reducible repeat (first | refine blk_drewN ?_ _ | refine blk_drew ?_ | refine blk_alloc ?_ _)); exact BK888.out) hb); have n1_ := Aside0.mk (below_step (by repeat (first | (with_reducible first | exact HB.out | apply below_alloc | apply pw_below_drewN | apply below_drew1 | refine below_set ?_ GE888.out) | exact HB.out)) hb); clear BK888; clear HB; have BK888 := n0_; have HB := n1_; clear n0_ n1_; (try clear hb); (try clear hb2); (try clear hk); (try clear hi)))
    go_ret2
    exact ⟨_, by first | rfl | (simp [errW_none, errW_some] <;> rfl) | (simp [*, errW_none, errW_some] <;> rfl), by first | exact Kd.R_nil _ _ _ _ _ | exact Kd.N_nil _ _ _ _ _ | exact Kd.V_nil _ _ _ _ _ | exact Kd.Q_nil _ _ _ _ _ | exact Kd.S_nil _ _ _ _ _, by repeat (first | (with_reducible first | exact HB.out | apply below_alloc | apply pw_below_drewN | apply below_drew1 | refine below_set ?_ GE888.out) | exact HB.out)⟩
end Go.Proofs.Ytlbcafniodfdgaa.A
end
section
namespace Go.Proofs.Ytlbcafniodfdgaa.A
open Go.RowKit Go.Proofs.YtlbcafniodfdgaaW.PrintWords Go.Proofs.YtlbcafniodfdgaaW.PrintLast Go.Proofs.YtlbcafniodfdgaaW.PrintMore
attribute [local go_sem] max2_int min2_int max_two min_two max_three min_three max_four min_four
set_option linter.unusedVariables false
set_option linter.unusedSimpArgs false
def impl_CountFixed.f (k : Nat) (l0_0 : List Int) (l0_1 : List Int) (l1 : List Int) : Option (Int) := (impl_FixedPoints.f k l0_0 l0_1 l1).bind fun bt929 => (if bt929.2 = true then (if 0 < (bt929.1.length : Int) then (if 1 < (bt929.1.length : Int) then (if 2 < (bt929.1.length : Int) then (if 3 < (bt929.1.length : Int) then (some (wrap64 ((wrap64 ((wrap64 ((rd bt929.1 0) + (rd bt929.1 1))) + (rd bt929.1 2))) + (rd bt929.1 3)))) else (none)) else (none)) else (none)) else (none)) else (some (-1)))
theorem impl_CountFixed.mono : ∀ a0 a1 a2 k, LeO (impl_CountFixed.f k a0 a1 a2) (impl_CountFixed.f (k + 1) a0 a1 a2) := by
  intro a0 a1 a2 k
  unfold impl_CountFixed.f
  repeat' first
      | (with_reducible exact impl_FixedPoints.mono _ _ _ _)
      | (with_reducible exact LeO.refl _)
      | (with_reducible exact LeO.none _)
      | (with_reducible refine LeO.ite ?_ ?_)
      | (with_reducible refine LeO.bind ?_ (fun _ => ?_))
      | exact impl_FixedPoints.mono _ _ _ _
      | exact LeO.none _
      | refine LeO.ite ?_ ?_
      | refine LeO.bind ?_ (fun _ => ?_)
set_option maxHeartbeats 8000000 in
set_option maxRecDepth 100000 in
theorem impl_CountFixed.calls (k : Nat) (A0_0 : Option Addr) (c0_0 : Nat) (l0_0 : List Int) (A0_1 : Option Addr) (c0_1 : Nat) (l0_1 : List Int) (A1 : Option Addr) (c1 : Nat) (l1 : List Int) (r : Int) (w : World) (hr0_0 : Kd.C (Kd.int .i64) w A0_0 l0_0.length l0_0) (hc0_0 : l0_0.length ≤ c0_0) (hr0_1 : Kd.C (Kd.int .i64) w A0_1 l0_1.length l0_1) (hc0_1 : l0_1.length ≤ c0_1) (hr1 : Kd.C (Kd.int .i64) w A1 l1.length l1) (hc1 : l1.length ≤ c1) (h : impl_CountFixed.f k l0_0 l0_1 l1 = some r) :
    Calls Try.prog 49 #[.agg #[.slice A0_0 l0_0.length c0_0, .slice A0_1 l0_1.length c0_1], .slice A1 l1.length c1] w fun e w' => e = .returned (.int .i64 r) ∧ Below w.heap.size w w' := by
  have hu34 := Try.underlying34
  have HR0_0 := Aside0.mk hr0_0
  have HC0_0 := Aside0.mk hc0_0
  clear hr0_0 hc0_0
  have HR0_1 := Aside0.mk hr0_1
  have HC0_1 := Aside0.mk hc0_1
  clear hr0_1 hc0_1
  have HR1 := Aside0.mk hr1
  have HC1 := Aside0.mk hc1
  clear hr1 hc1
  have HB := Aside0.mk (Below.refl w.heap.size w)
  have H : ((impl_FixedPoints.f k l0_0 l0_1 l1).bind fun bt929 => (if bt929.2 = true then (if 0 < (bt929.1.length : Int) then (if 1 < (bt929.1.length : Int) then (if 2 < (bt929.1.length : Int) then (if 3 < (bt929.1.length : Int) then (some (wrap64 ((wrap64 ((wrap64 ((rd bt929.1 0) + (rd bt929.1 1))) + (rd bt929.1 2))) + (rd bt929.1 3)))) else (none)) else (none)) else (none)) else (none)) else (some (-1)))) = some r := h
  clear h
  replace H := Option.bind_eq_some_iff.mp H
  obtain ⟨⟨t929, t932⟩, A30, H⟩ := H
  replace H : (if t932 = true then (if 0 < (t929.length : Int) then (if 1 < (t929.length : Int) then (if 2 < (t929.length : Int) then (if 3 < (t929.length : Int) then (some (wrap64 ((wrap64 ((wrap64 ((rd t929 0) + (rd t929 1))) + (rd t929 2))) + (rd t929 3)))) else (none)) else (none)) else (none)) else (none)) else (some (-1))) = some r := H
  have A3 := Aside0.mk A30
  clear A30
  by_cases c4 : t932 = true
  · subst c4
    have H1 : (if 0 < (t929.length : Int) then (if 1 < (t929.length : Int) then (if 2 < (t929.length : Int) then (if 3 < (t929.length : Int) then (some (wrap64 ((wrap64 ((wrap64 ((rd t929 0) + (rd t929 1))) + (rd t929 2))) + (rd t929 3)))) else (none)) else (none)) else (none)) else (none)) = some r := by rw [if_pos rfl] at H; exact H
    clear H
    have H := H1
    clear H1
    by_cases c5 : 0 < (t929.length : Int)
    · rw [if_pos c5] at H
      have c5b0 : decide (0 < (t929.length : Int)) = true := decide_eq_true c5
      have c5b1 : decide (0 < t929.length) = true := decide_eq_true (by omega)
      clear c5
      by_cases c6 : 1 < (t929.length : Int)
      · rw [if_pos c6] at H
        have c6b0 : decide (1 < (t929.length : Int)) = true := decide_eq_true c6
        have c6b1 : decide (1 < t929.length) = true := decide_eq_true (by omega)
        clear c6
        by_cases c7 : 2 < (t929.length : Int)
        · rw [if_pos c7] at H
          have c7b0 : decide (2 < (t929.length : Int)) = true := decide_eq_true c7
          have c7b1 : decide (2 < t929.length) = true := decide_eq_true (by omega)
          clear c7
          by_cases c8 : 3 < (t929.length : Int)
          · rw [if_pos c8] at H
            have c8b0 : decide (3 < (t929.length : Int)) = true := decide_eq_true c8
            have c8b1 : decide (3 < t929.length) = true := decide_eq_true (by omega)
            clear c8
            obtain rfl := Option.some.inj H
            go_enter Try.func49, Try.ntmps49
            go_wp2_with (first | ((with_reducible refine gate_dst (N := 2) rfl ?_); refine box_event ?hg (N := 2) ?hd (cs := #[.slice A0_0 l0_0.length c0_0, .slice A0_1 l0_1.length c0_1]) (t := 34) ?hr ?_; (case hd => rfl); (case hg => rfl); (case hr => first | (go_simp; done) | (go_simp; rfl)); intro gb928 hg w9 hbox hb; have n0_ := Aside0.mk (below_step (by repeat (first | (with_reducible first | exact HB.out | apply below_alloc | apply pw_below_drewN | apply below_drew1) | exact HB.out)) hb); have n1_ := Aside0.mk (hbox); have n2_ := Aside0.mk ((by rw [hg]; exact (below_size (by repeat (first | (with_reducible first | exact HB.out | apply below_alloc | apply pw_below_drewN | apply below_drew1) | exact HB.out))) : w.heap.size ≤ gb928)); have n3_ := Aside0.mk ((by rw [hg]; exact (below_size (by repeat (first | (with_reducible first | exact HB.out | apply below_alloc | apply pw_below_drewN | apply below_drew1) | exact HB.out))) : w.heap.size ≤ gb928)); clear HB; have HB := n0_; have BK928 := n1_; have GW928 := n2_; have GE928 := n3_; clear n0_ n1_ n2_ n3_; clear hb hbox hg; have hcz10_0 : w9.cell? ⟨gb928, 0, none⟩ = some (.slice A0_0 l0_0.length c0_0) := (blk_cell BK928.out 0).trans rfl; have hcz10_1 : w9.cell? ⟨gb928, 1, none⟩ = some (.slice A0_1 l0_1.length c0_1) := (blk_cell BK928.out 1).trans rfl; have hfz10_0 := blk_frozen BK928.out 0; have hfz10_1 := blk_frozen BK928.out 1) | (go_at_call 51; (with_reducible refine (impl_FixedPoints.calls k _ _ l0_0 _ _ l0_1 _ _ l1 t929 true _ ?side1 ?side2 ?side3 ?side4 ?side5 ?side6 A3.out).mono ?_); (case side1 => repeat (first | exact (Kd.C_below HR0_0.out HB.out) | (with_reducible refine Kd.C_alloc ?_ _) | (with_reducible refine Kd.C_drewN ?_ _) | (with_reducible refine Kd.C_drew ?_))); (case side2 => exact HC0_0.out); (case side3 => repeat (first | exact (Kd.C_below HR0_1.out HB.out) | (with_reducible refine Kd.C_alloc ?_ _) | (with_reducible refine Kd.C_drewN ?_ _) | (with_reducible refine Kd.C_drew ?_))); (case side4 => exact HC0_1.out); (case side5 => repeat (first | exact (Kd.C_below HR1.out HB.out) | (with_reducible refine Kd.C_alloc ?_ _) | (with_reducible refine Kd.C_drewN ?_ _) | (with_reducible refine Kd.C_drew ?_))); (case side6 => exact HC1.out); rintro e w11 ⟨v930, rfl, ho0, hb⟩; have n0_ := Aside0.mk (Kd.R_lower ho0 (below_size (by repeat (first | (with_reducible first | exact HB.out | apply below_alloc | apply pw_below_drewN | apply below_drew1 | refine below_set ?_ GE928.out) | exact HB.out)))); have n1_ := Aside0.mk (blk_below (g := gb928) (o := .cells #[.slice A0_0 l0_0.length c0_0, .slice A0_1 l0_1.length c0_1] 34 (0, 0)) (by (with_reducible repeat (first | refine blk_drewN ?_ _ | refine blk_drew ?_ | refine blk_alloc ?_ _)); exact BK928.out) hb); have n2_ := Aside0.mk (below_step (by repeat (first | (with_reducible first | exact HB.out | apply below_alloc | apply pw_below_drewN | apply below_drew1 | refine below_set ?_ GE928.out) | exact HB.out)) hb); clear BK928; clear HB; have HO931 := n0_; have BK928 := n1_; have HB := n2_; clear n0_ n1_ n2_; (try clear hb); (try clear hb2); (try clear hk); (try clear hi); (try clear ho0); obtain ⟨Ao12, co12, eo12⟩ := Kd.R_slice HO931.out; subst eo12; have p933 : 0 ≤ (0 : Int) := (by omega); have q933 : 0 < (t929.length : Int) := of_decide_eq_true (by first | (with_reducible assumption) | assumption); obtain ⟨ad933, e933, hx933_0⟩ := Kd.at_int (Kd.R_reads' HO931.out).2.2 0 p933 q933; cases e933; have qi933 : (0 < t929.length) = True := eq_true (by omega); (try rw [show ((0 : Int)).toNat = 0 from rfl] at hx933_0); (try rw [Addr.add_zero'] at hx933_0); replace p933 := eq_true p933; replace q933 := eq_true q933; have p934 : 0 ≤ (1 : Int) := (by omega); have q934 : 1 < (t929.length : Int) := of_decide_eq_true (by first | (with_reducible assumption) | assumption); obtain ⟨ad934, e934, hx934_0⟩ := Kd.at_int (Kd.R_reads' HO931.out).2.2 1 p934 q934; obtain rfl : ad933 = ad934 := (by injection e934); (try simp only [show (1 : Int).toNat = 1 from rfl, Nat.reduceMul, Nat.reduceEqDiff, Go.Addr.add, ↓reduceIte] at hx934_0); have qi934 : (1 < t929.length) = True := eq_true (by omega); (try rw [show ((1 : Int)).toNat = 1 from rfl] at hx934_0); replace p934 := eq_true p934; replace q934 := eq_true q934; have p935 : 0 ≤ (2 : Int) := (by omega); have q935 : 2 < (t929.length : Int) := of_decide_eq_true (by first | (with_reducible assumption) | assumption); obtain ⟨ad935, e935, hx935_0⟩ := Kd.at_int (Kd.R_reads' HO931.out).2.2 2 p935 q935; obtain rfl : ad933 = ad935 := (by injection e935); (try simp only [show (2 : Int).toNat = 2 from rfl, Nat.reduceMul, Nat.reduceEqDiff, Go.Addr.add, ↓reduceIte] at hx935_0); have qi935 : (2 < t929.length) = True := eq_true (by omega); (try rw [show ((2 : Int)).toNat = 2 from rfl] at hx935_0); replace p935 := eq_true p935; replace q935 := eq_true q935; have p936 : 0 ≤ (3 : Int) := (by omega); have q936 : 3 < (t929.length : Int) := of_decide_eq_true (by first | (with_reducible assumption) | assumption); obtain ⟨ad936, e936, hx936_0⟩ := Kd.at_int (Kd.R_reads' HO931.out).2.2 3 p936 q936; obtain rfl : ad933 = ad936 := (by injection e936); (try simp only [show (3 : Int).toNat = 3 from rfl, Nat.reduceMul, Nat.reduceEqDiff, Go.Addr.add, ↓reduceIte] at hx936_0); have qi936 : (3 < t929.length) = True := eq_true (by omega); (try rw [show ((3 : Int)).toNat = 3 from rfl] at hx936_0); replace p936 := eq_true p936; replace q936 := eq_true q936))
            repeat (go_quiet (first | ((with_reducible refine gate_dst (N := 2) rfl ?_); refine box_event ?hg (N := 2) ?hd (cs := #[.slice A0_0 l0_0.length c0_0, .slice A0_1 l0_1.length c0_1]) (t := 34) ?hr ?_; (case hd => rfl); (case hg => rfl); (case hr => first | (go_simp; done) | (go_simp; rfl)); intro gb928 hg w9 hbox hb; have n0_ := Aside0.mk (below_step (by repeat (first | (with_reducible first | exact HB.out | apply below_alloc | apply pw_below_drewN | apply below_drew1) | exact HB.out)) hb); have n1_ := Aside0.mk (hbox); have n2_ := Aside0.mk ((by rw [hg]; exact (below_size (by repeat (first | (with_reducible first | exact HB.out | apply below_alloc | apply pw_below_drewN | apply below_drew1) | exact HB.out))) : w.heap.size ≤ gb928)); have n3_ := Aside0.mk ((by rw [hg]; exact (below_size (by repeat (first | (with_reducible first | exact HB.out | apply below_alloc | apply pw_below_drewN | apply below_drew1) | exact HB.out))) : w.heap.size ≤ gb928)); clear HB; have HB := n0_; have BK928 := n1_; have GW928 := n2_; have GE928 := n3_; clear n0_ n1_ n2_ n3_; clear hb hbox hg; have hcz10_0 : w9.cell? ⟨gb928, 0, none⟩ = some (.slice A0_0 l0_0.length c0_0) := (blk_cell BK928.out 0).trans rfl; have hcz10_1 : w9.cell? ⟨gb928, 1, none⟩ = some (.slice A0_1 l0_1.length c0_1) := (blk_cell BK928.out 1).trans rfl; have hfz10_0 := blk_frozen BK928.out 0; have hfz10_1 := blk_frozen BK928.out 1) | (go_at_call 51; (with_reducible refine (impl_FixedPoints.calls k _ _ l0_0 _ _ l0_1 _ _ l1 t929 true _ ?side1 ?side2 ?side3 ?side4 ?side5 ?side6 A3.out).mono ?_); (case side1 => repeat (first | exact (Kd.C_below HR0_0.out HB.out) | (with_reducible refine Kd.C_alloc ?_ _) | (with_reducible refine Kd.C_drewN ?_ _) | (with_reducible refine Kd.C_drew ?_))); (case side2 => exact HC0_0.out); (case side3 => repeat (first | exact (Kd.C_below HR0_1.out HB.out) | (with_reducible refine Kd.C_alloc ?_ _) | (with_reducible refine Kd.C_drewN ?_ _) | (with_reducible refine Kd.C_drew ?_))); (case side4 => exact HC0_1.out); (case side5 => repeat (first | exact (Kd.C_below HR1.out HB.out) | (with_reducible refine Kd.C_alloc ?_ _) | (with_reducible refine Kd.C_drewN ?_ _) | (with_reducible refine Kd.C_drew ?_))); (case side6 => exact HC1.out); rintro e w11 ⟨v930, rfl, ho0, hb⟩; have n0_ := Aside0.mk (Kd.R_lower ho0 (below_size (by repeat (first | (with_reducible first | exact HB.out | apply below_alloc | apply pw_below_drewN | apply below_drew1 | refine below_set ?_ GE928.out) | exact HB.out)))); have n1_ := Aside0.mk (blk_below (g := gb928) (o := .cells #[.slice A0_0 l0_0.length c0_0, .slice A0_1 l0_1.length c0_1] 34 (0, 0)) (by (with_reducible repeat (first | refine blk_drewN ?_ _ | refine blk_drew ?_ | refine blk_alloc ?_ _)); exact BK928.out) hb); have n2_ := Aside0.mk (below_step (by repeat (first | (with_reducible first | exact HB.out | apply below_alloc | apply pw_below_drewN | apply below_drew1 | refine below_set ?_ GE928.out) | exact HB.out)) hb); clear BK928; clear HB; have HO931 := n0_; have BK928 := n1_; have HB := n2_; clear n0_ n1_ n2_; (try clear hb); (try clear hb2); (try clear hk); (try clear hi); (try clear ho0); obtain ⟨Ao12, co12, eo12⟩ := Kd.R_slice HO931.out; subst eo12; have p933 : 0 ≤ (0 : Int) := (by omega); have q933 : 0 < (t929.length : Int) := of_decide_eq_true (by first | (with_reducible assumption) | assumption); obtain ⟨ad933, e933, hx933_0⟩ := Kd.at_int (Kd.R_reads' HO931.out).2.2 0 p933 q933; cases e933; have qi933 : (0 < t929.length) = True := eq_true (by omega); (try rw [show ((0 : Int)).toNat = 0 from rfl] at hx933_0); (try rw [Addr.add_zero'] at hx933_0); replace p933 := eq_true p933; replace q933 := eq_true q933; have p934 : 0 ≤ (1 : Int) := (by omega); have q934 : 1 < (t929.length : Int) := of_decide_eq_true (by first | (with_reducible assumption) | assumption); obtain ⟨ad934, e934, hx934_0⟩ := Kd.at_int (Kd.R_reads' HO931.out).2.2 1 p934 q934; obtain rfl : ad933 = ad934 := (by injection e934); (try simp only [show (1 : Int).toNat = 1 from rfl, Nat.reduceMul, Nat.reduceEqDiff, Go.Addr.add, ↓reduceIte] at hx934_0); have qi934 : (1 < t929.length) = True := eq_true (by omega); (try rw [show ((1 : Int)).toNat = 1 from rfl] at hx934_0); replace p934 := eq_true p934; replace q934 := eq_true q934; have p935 : 0 ≤ (2 : Int) := (by omega); have q935 : 2 < (t929.length : Int) := of_decide_eq_true (by first | (with_reducible assumption) | assumption); obtain ⟨ad935, e935, hx935_0⟩ := Kd.at_int (Kd.R_reads' HO931.out).2.2 2 p935 q935; obtain rfl : ad933 = ad935 := (by injection e935); (try simp only [show (2 : Int).toNat = 2 from rfl, Nat.reduceMul, Nat.reduceEqDiff, Go.Addr.add, ↓reduceIte] at hx935_0); have qi935 : (2 < t929.length) = True := eq_true (by omega); (try rw [show ((2 : Int)).toNat = 2 from rfl] at hx935_0); replace p935 := eq_true p935; replace q935 := eq_true q935; have p936 : 0 ≤ (3 : Int) := (by omega); have q936 : 3 < (t929.length : Int) := of_decide_eq_true (by first | (with_reducible assumption) | assumption); obtain ⟨ad936, e936, hx936_0⟩ := Kd.at_int (Kd.R_reads' HO931.out).2.2 3 p936 q936; obtain rfl : ad933 = ad936 := (by injection e936); (try simp only [show (3 : Int).toNat = 3 from rfl, Nat.reduceMul, Nat.reduceEqDiff, Go.Addr.add, ↓reduceIte] at hx936_0); have qi936 : (3 < t929.length) = True := eq_true (by omega); (try rw [show ((3 : Int)).toNat = 3 from rfl] at hx936_0); replace p936 := eq_true p936; replace q936 := eq_true q936)); try go_wp2_with (first | ((with_reducible refine gate_dst (N := 2) rfl ?_); refine box_event ?hg (N := 2) ?hd (cs := #[.slice A0_0 l0_0.length c0_0, .slice A0_1 l0_1.length c0_1]) (t := 34) ?hr ?_; (case hd => rfl); (case hg => rfl); (case hr => first | (go_simp; done) | (go_simp; rfl)); intro gb928 hg w9 hbox hb; have n0_ := Aside0.mk (below_step (by repeat (first | (with_reducible first | exact HB.out | apply below_alloc | apply pw_below_drewN | apply below_drew1) | exact HB.out)) hb); have n1_ := Aside0.mk (hbox); have n2_ := Aside0.mk ((by rw [hg]; exact (below_size (by repeat (first | (with_reducible first | exact HB.out | apply below_alloc | apply pw_below_drewN | apply below_drew1) | exact HB.out))) : w.heap.size ≤ gb928)); have n3_ := Aside0.mk ((by rw [hg]; exact (below_size (by repeat (first | (with_reducible first | exact HB.out | apply below_alloc | apply pw_below_drewN | apply below_drew1) | exact HB.out))) : w.heap.size ≤ gb928)); clear HB; have HB := n0_; have BK928 := n1_; have GW928 := n2_; have GE928 := n3_; clear n0_ n1_ n2_ n3_; clear hb hbox hg; have hcz10_0 : w9.cell? ⟨gb928, 0, none⟩ = some (.slice A0_0 l0_0.length c0_0) := (blk_cell BK928.out 0).trans rfl; have hcz10_1 : w9.cell? ⟨gb928, 1, none⟩ = some (.slice A0_1 l0_1.length c0_1) := (blk_cell BK928.out 1).trans rfl; have hfz10_0 := blk_frozen BK928.out 0; have hfz10_1 := blk_frozen BK928.out 1) | (go_at_call 51; (with_reducible refine (impl_FixedPoints.calls k _ _ l0_0 _ _ l0_1 _ _ l1 t929 true _ ?side1 ?side2 ?side3 ?side4 ?side5 ?side6 A3.out).mono ?_); (case side1 => repeat (first | exact (Kd.C_below HR0_0.out HB.out) | (with_reducible refine Kd.C_alloc ?_ _) | (with_reducible refine Kd.C_drewN ?_ _) | (with_reducible refine Kd.C_drew ?_))); (case side2 => exact HC0_0.out); (case side3 => repeat (first | exact (Kd.C_below HR0_1.out HB.out) | (with_reducible refine Kd.C_alloc ?_ _) | (with_reducible refine Kd.C_drewN ?_ _) | (with_reducible refine Kd.C_drew ?_))); (case side4 => exact HC0_1.out); (case side5 => repeat (first | exact (Kd.C_below HR1.out HB.out) | (with_reducible refine Kd.C_alloc ?_ _) | (with_reducible refine Kd.C_drewN ?_ _) | (with_reducible refine Kd.C_drew ?_))); (case side6 => exact HC1.out); rintro e w11 ⟨v930, rfl, ho0, hb⟩; have n0_ := Aside0.mk (Kd.R_lower ho0 (below_size (by repeat (first | (with_reducible first | exact HB.out | apply below_alloc | apply pw_below_drewN | apply below_drew1 | refine below_set ?_ GE928.out) | exact HB.out)))); have n1_ := Aside0.mk (blk_below (g := gb928) (o := .cells #[.slice A0_0 l0_0.length c0_0, .slice A0_1 l0_1.length c0_1] 34 (0, 0)) (by (with_reducible repeat (first | refine blk_drewN ?_ _ | refine blk_drew ?_ | refine blk_alloc ?_ _)); exact BK928.out) hb); have n2_ := Aside0.mk (below_step (by repeat (first | (with_reducible first | exact HB.out | apply below_alloc | apply pw_below_drewN | apply below_drew1 | refine below_set ?_ GE928.out) | exact HB.out)) hb); clear BK928; clear HB; have HO931 := n0_; have BK928 := n1_; have HB := n2_; clear n0_ n1_ n2_; (try clear hb); (try clear hb2); (try clear hk); (try clear hi); (try clear ho0); obtain ⟨Ao12, co12, eo12⟩ := Kd.R_slice HO931.out; subst eo12; have p933 : 0 ≤ (0 : Int) := (by omega); have q933 : 0 < (t929.length : Int) := of_decide_eq_true (by first | (with_reducible assumption) | assumption); obtain ⟨ad933, e933, hx933_0⟩ := Kd.at_int (Kd.R_reads' HO931.out).2.2 0 p933 q933; cases e933; have qi933 : (0 < t929.length) = True := eq_true (by omega); (try rw [show ((0 : Int)).toNat = 0 from rfl] at hx933_0); (try rw [Addr.add_zero'] at hx933_0); replace p933 := eq_true p933; replace q933 := eq_true q933; have p934 : 0 ≤ (1 : Int) := (by omega); have q934 : 1 < (t929.length : Int) := of_decide_eq_true (by first | (with_reducible assumption) | assumption); obtain ⟨ad934, e934, hx934_0⟩ := Kd.at_int (Kd.R_reads' HO931.out).2.2 1 p934 q934; obtain rfl : ad933 = ad934 := (by injection e934); (try simp only [show (1 : Int).toNat = 1 from rfl, Nat.reduceMul, Nat.reduceEqDiff, Go.Addr.add, ↓reduceIte] at hx934_0); have qi934 : (1 < t929.length) = True := eq_true (by omega); (try rw [show ((1 : Int)).toNat = 1 from rfl] at hx934_0); replace p934 := eq_true p934; replace q934 := eq_true q934; have p935 : 0 ≤ (2 : Int) := (by omega); have q935 : 2 < (t929.length : Int) := of_decide_eq_true (by first | (with_reducible assumption) | assumption); obtain ⟨ad935, e935, hx935_0⟩ := Kd.at_int (Kd.R_reads' HO931.out).2.2 2 p935 q935; obtain rfl : ad933 = ad935 := (by injection e935); (try simp only [show (2 : Int).toNat = 2 from rfl, Nat.reduceMul, Nat.reduceEqDiff, Go.Addr.add, ↓reduceIte] at hx935_0); have qi935 : (2 < t929.length) = True := eq_true (by omega); (try rw [show ((2 : Int)).toNat = 2 from rfl] at hx935_0); replace p935 := eq_true p935; replace q935 := eq_true q935; have p936 : 0 ≤ (3 : Int) := (by omega); have q936 : 3 < (t929.length : Int) := of_decide_eq_true (by first | (with_reducible assumption) | assumption); obtain ⟨ad936, e936, hx936_0⟩ := Kd.at_int (Kd.R_reads' HO931.out).2.2 3 p936 q936; obtain rfl : ad933 = ad936 := (by injection e936); (try simp only [show (3 : Int).toNat = 3 from rfl, Nat.reduceMul, Nat.reduceEqDiff, Go.Addr.add, ↓reduceIte] at hx936_0); have qi936 : (3 < t929.length) = True := eq_true (by omega); (try rw [show ((3 : Int)).toNat = 3 from rfl] at hx936_0); replace p936 := eq_true p936; replace q936 := eq_true q936)))
            go_ret
            exact ⟨by first | rfl | (simp [errW_none, errW_some] <;> rfl) | (simp [*, errW_none, errW_some] <;> rfl), by repeat (first | (with_reducible first | exact HB.out | apply below_alloc | apply pw_below_drewN | apply below_drew1 | refine below_set ?_ GE928.out) | exact HB.out)⟩
          · rw [if_neg c8] at H
            exact absurd H (by simp)
        · rw [if_neg c7] at H
          exact absurd H (by simp)
      · rw [if_neg c6] at H
        exact absurd H (by simp)
    · rw [if_neg c5] at H
      exact absurd H (by simp)
  · replace c4 := Bool.eq_false_iff.mpr c4
    subst c4
    have H1 : (some (-1)) = some r := by rw [if_neg (show ¬ (false = true) by decide)] at H; exact H
    clear H
    have H := H1
    clear H1
    obtain rfl := Option.some.inj H
    go_enter Try.func49, Try.ntmps49
    go_wp2_with (first | ((with_reducible refine gate_dst (N := 2) rfl ?_); refine box_event ?hg (N := 2) ?hd (cs := #[.slice A0_0 l0_0.length c0_0, .slice A0_1 l0_1.length c0_1]) (t := 34) ?hr ?_; (case hd => rfl); (case hg => rfl); (case hr => first | (go_simp; done) | (go_simp; rfl)); intro gb928 hg w13 hbox hb; have n0_ := Aside0.mk (below_step (by repeat (first | (with_reducible first | exact HB.out | apply below_alloc | apply pw_below_drewN | apply below_drew1) | exact HB.out)) hb); have n1_ := Aside0.mk (hbox); have n2_ := Aside0.mk ((by rw [hg]; exact (below_size (by repeat (first | (with_reducible first | exact HB.out | apply below_alloc | apply pw_below_drewN | apply below_drew1) | exact HB.out))) : w.heap.size ≤ gb928)); have n3_ := Aside0.mk ((by rw [hg]; exact (below_size (by repeat (first | (with_reducible first | exact HB.out | apply below_alloc | apply pw_below_drewN | apply below_drew1) | exact HB.out))) : w.heap.size ≤ gb928)); clear HB; have HB := n0_; have BK928 := n1_; have GW928 := n2_; have GE928 := n3_; clear n0_ n1_ n2_ n3_; clear hb hbox hg; have hcz14_0 : w13.cell? ⟨gb928, 0, none⟩ = some (.slice A0_0 l0_0.length c0_0) := (blk_cell BK928.out 0).trans rfl; have hcz14_1 : w13.cell? ⟨gb928, 1, none⟩ = some (.slice A0_1 l0_1.length c0_1) := (blk_cell BK928.out 1).trans rfl; have hfz14_0 := blk_frozen BK928.out 0; have hfz14_1 := blk_frozen BK928.out 1) | (go_at_call 51; (with_reducible refine (impl_FixedPoints.calls k _ _ l0_0 _ _ l0_1 _ _ l1 t929 false _ ?side1 ?side2 ?side3 ?side4 ?side5 ?side6 A3.out).mono ?_); (case side1 => repeat (first | exact (Kd.C_below HR0_0.out HB.out) | (with_reducible refine Kd.C_alloc ?_ _) | (with_reducible refine Kd.C_drewN ?_ _) | (with_reducible refine Kd.C_drew ?_))); (case side2 => exact HC0_0.out); (case side3 => repeat (first | exact (Kd.C_below HR0_1.out HB.out) | (with_reducible refine Kd.C_alloc ?_ _) | (with_reducible refine Kd.C_drewN ?_ _) | (with_reducible refine Kd.C_drew ?_))); (case side4 => exact HC0_1.out); (case side5 => repeat (first | exact (Kd.C_below HR1.out HB.out) | (with_reducible refine Kd.C_alloc ?_ _) | (with_reducible refine Kd.C_drewN ?_ _) | (with_reducible refine Kd.C_drew ?_))); (case side6 => exact HC1.out); rintro e w15 ⟨v930, rfl, ho0, hb⟩; have n0_ := Aside0.mk (Kd.R_lower ho0 (below_size (by repeat (first | (with_reducible first | exact HB.out | apply below_alloc | apply pw_below_drewN | apply below_drew1 | refine below_set ?_ GE928.out) | exact HB.out)))); have n1_ := Aside0.mk (blk_below (g := gb928) (o := .cells #[.slice A0_0 l0_0.length c0_0, .slice A0_1 l0_1.length c0_1] 34 (0, 0)) (by (with_reducible repeat (first | refine blk_drewN ?_ _ | refine blk_drew ?_ | refine blk_alloc ?_ _)); exact BK928.out) hb); have n2_ := Aside0.mk (below_step (by repeat (first | (with_reducible first | exact HB.out | apply below_alloc | apply pw_below_drewN | apply below_drew1 | refine below_set ?_ GE928.out) | exact HB.out)) hb); clear BK928; clear HB; have HO931 := n0_; have BK928 := n1_; have HB := n2_; clear n0_ n1_ n2_; (try clear hb); (try clear hb2); (try clear hk); (try clear hi); (try clear ho0)))
    repeat (go_quiet (first | ((with_reducible refine gate_dst (N := 2) rfl ?_); refine box_event ?hg (N := 2) ?hd (cs := #[.slice A0_0 l0_0.length c0_0, .slice A0_1 l0_1.length c0_1]) (t := 34) ?hr ?_; (case hd => rfl); (case hg => rfl); (case hr => first | (go_simp; done) | (go_simp; rfl)); intro gb928 hg w13 hbox hb; have n0_ := Aside0.mk (below_step (by repeat (first | (with_reducible first | exact HB.out | apply below_alloc | apply pw_below_drewN | apply below_drew1) | exact HB.out)) hb); have n1_ := Aside0.mk (hbox); have n2_ := Aside0.mk ((by rw [hg]; exact (below_size (by repeat (first | (with_reducible first | exact HB.out | apply below_alloc | apply pw_below_drewN | apply below_drew1) | exact HB.out))) : w.heap.size ≤ gb928)); have n3_ := Aside0.mk ((by rw [hg]; exact (below_size (by repeat (first | (with_reducible first | exact HB.out | apply below_alloc | apply pw_below_drewN | apply below_drew1) | exact HB.out))) : w.heap.size ≤ gb928)); clear HB; have HB := n0_; have BK928 := n1_; have GW928 := n2_; have GE928 := n3_; clear n0_ n1_ n2_ n3_; clear hb hbox hg; have hcz14_0 : w13.cell? ⟨gb928, 0, none⟩ = some (.slice A0_0 l0_0.length c0_0) := (blk_cell BK928.out 0).trans rfl; have hcz14_1 : w13.cell? ⟨gb928, 1, none⟩ = some (.slice A0_1 l0_1.length c0_1) := (blk_cell BK928.out 1).trans rfl; have hfz14_0 := blk_frozen BK928.out 0; have hfz14_1 := blk_frozen BK928.out 1) | (go_at_call 51; (with_reducible refine (impl_FixedPoints.calls k _ _ l0_0 _ _ l0_1 _ _ l1 t929 false _ ?side1 ?side2 ?side3 ?side4 ?side5 ?side6 A3.out).mono ?_); (case side1 => repeat (first | exact (Kd.C_below HR0_0.out HB.out) | (with_reducible refine Kd.C_alloc ?_ _) | (with_reducible refine Kd.C_drewN ?_ _) | (with_reducible refine Kd.C_drew ?_))); (case side2 => exact HC0_0.out); (case side3 => repeat (first | exact (Kd.C_below HR0_1.out HB.out) | (with_reducible refine Kd.C_alloc ?_ _) | (with_reducible refine Kd.C_drewN ?_ _) | (with_reducible refine Kd.C_drew ?_))); (case side4 => exact HC0_1.out); (case side5 => repeat (first | exact (Kd.C_below HR1.out HB.out) | (with_reducible refine Kd.C_alloc ?_ _) | (with_reducible refine Kd.C_drewN ?_ _) | (with_reducible refine Kd.C_drew ?_))); (case side6 => exact HC1.out); rintro e w15 ⟨v930, rfl, ho0, hb⟩; have n0_ := Aside0.mk (Kd.R_lower ho0 (below_size (by repeat (first | (with_reducible first | exact HB.out | apply below_alloc | apply pw_below_drewN | apply below_drew1 | refine below_set ?_ GE928.out) | exact HB.out)))); have n1_ := Aside0.mk (blk_below (g := gb928) (o := .cells #[.slice A0_0 l0_0.length c0_0, .slice A0_1 l0_1.length c0_1] 34 (0, 0)) (by (with_reducible repeat (first | refine blk_drewN ?_ _ | refine blk_drew ?_ | refine blk_alloc ?_ _)); exact BK928.out) hb); have n2_ := Aside0.mk (below_step (by repeat (first | (with_reducible first | exact HB.out | apply below_alloc | apply pw_below_drewN | apply below_drew1 | refine below_set ?_ GE928.out) | exact HB.out)) hb); clear BK928; clear HB; have HO931 := n0_; have BK928 := n1_; have HB := n2_; clear n0_ n1_ n2_; (try clear hb); (try clear hb2); (try clear hk); (try clear hi); (try clear ho0))); try go_wp2_with (first | ((with_reducible refine gate_dst (N := 2) rfl ?_); refine box_event ?hg (N := 2) ?hd (cs := #[.slice A0_0 l0_0.length c0_0, .slice A0_1 l0_1.length c0_1]) (t := 34) ?hr ?_; (case hd => rfl); (case hg => rfl); (case hr => first | (go_simp; done) | (go_simp; rfl)); intro gb928 hg w13 hbox hb; have n0_ := Aside0.mk (below_step (by repeat (first | (with_reducible first | exact HB.out | apply below_alloc | apply pw_below_drewN | apply below_drew1) | exact HB.out)) hb); have n1_ := Aside0.mk (hbox); have n2_ := Aside0.mk ((by rw [hg]; exact (below_size (by repeat (first | (with_reducible first | exact HB.out | apply below_alloc | apply pw_below_drewN | apply below_drew1) | exact HB.out))) : w.heap.size ≤ gb928)); have n3_ := Aside0.mk ((by rw [hg]; exact (below_size (by repeat (first | (with_reducible first | exact HB.out | apply below_alloc | apply pw_below_drewN | apply below_drew1) | exact HB.out))) : w.heap.size ≤ gb928)); clear HB; have HB := n0_; have BK928 := n1_; have GW928 := n2_; have GE928 := n3_; clear n0_ n1_ n2_ n3_; clear hb hbox hg; have hcz14_0 : w13.cell? ⟨gb928, 0, none⟩ = some (.slice A0_0 l0_0.length c0_0) := (blk_cell BK928.out 0).trans rfl; have hcz14_1 : w13.cell? ⟨gb928, 1, none⟩ = some (.slice A0_1 l0_1.length c0_1) := (blk_cell BK928.out 1).trans rfl; have hfz14_0 := blk_frozen BK928.out 0; have hfz14_1 := blk_frozen BK928.out 1) | (go_at_call 51; (with_reducible refine (impl_FixedPoints.calls k _ _ l0_0 _ _ l0_1 _ _ l1 t929 false _ ?side1 ?side2 ?side3 ?side4 ?side5 ?side6 A3.out).mono ?_); (case side1 => repeat (first | exact (Kd.C_below HR0_0.out HB.out) | (with_reducible refine Kd.C_alloc ?_ _) | (with_reducible refine Kd.C_drewN ?_ _) | (with_reducible refine Kd.C_drew ?_))); (case side2 => exact HC0_0.out); (case side3 => repeat (first | exact (Kd.C_below HR0_1.out HB.out) | (with_reducible refine Kd.C_alloc ?_ _) | (with_reducible refine Kd.C_drewN ?_ _) | (with_reducible refine Kd.C_drew ?_))); (case side4 => exact HC0_1.out); (case side5 => repeat (first | exact (Kd.C_below HR1.out HB.out) | (with_reducible refine Kd.C_alloc ?_ _) | (with_reducible refine Kd.C_drewN ?_ _) | (with_reducible refine Kd.C_drew ?_))); (case side6 => exact HC1.out); rintro e w15 ⟨v930, rfl, ho0, hb⟩; have n0_ := Aside0.mk (Kd.R_lower ho0 (below_size (by repeat (first | (with_reducible first | exact HB.out | apply below_alloc | apply pw_below_drewN | apply below_drew1 | refine below_set ?_ GE928.out) | exact HB.out)))); have n1_ := Aside0.mk (blk_below (g := gb928) (o := .cells #[.slice A0_0 l0_0.length c0_0, .slice A0_1 l0_1.length c0_1] 34 (0, 0)) (by (with_reducible repeat (first | refine blk_drewN ?_ _ | refine blk_drew ?_ | refine blk_alloc ?_ _)); exact BK928.out) hb); have n2_ := Aside0.mk (below_step (by repeat (first | (with_reducible first | exact HB.out | apply below_alloc | apply pw_below_drewN | apply below_drew1 | refine below_set ?_ GE928.out) | exact HB.out)) hb); clear BK928; clear HB; have HO931 := n0_; have BK928 := n1_; have HB := n2_; clear n0_ n1_ n2_; (try clear hb); (try clear hb2); (try clear hk); (try clear hi); (try clear ho0))))
    go_ret
    exact ⟨by first | rfl | (simp [errW_none, errW_some] <;> rfl) | (simp [*, errW_none, errW_some] <;> rfl), by repeat (first | (with_reducible first | exact HB.out | apply below_alloc | apply pw_below_drewN | apply below_drew1 | refine below_set ?_ GE928.out) | exact HB.out)⟩
end Go.Proofs.Ytlbcafniodfdgaa.A
end
section
/- What a call made lies apart from what was there. No conditions. -/
namespace Go.Proofs.Ytlbcafniodfdgaa.M
open Go.RowKit Go.Proofs.YtlbcafniodfdgaaW.PrintWords Go.Proofs.YtlbcafniodfdgaaW.PrintLast Go.Proofs.YtlbcafniodfdgaaW.PrintMore
theorem fresh_R {α : Type} {d : Kd α} {e b b0 : Nat} {w : World} {ok : Nat → Prop} {v : Value} {xs : List α} (h : d.R e w b ok v xs) (hb : b0 ≤ b) : d.R e w b0 (fun k => b ≤ k ∧ k < w.heap.size) v xs :=
  Kd.R_lower (Kd.R_mono (Kd.R_bound h) (fun _ hk => ⟨hk.2.1, hk.2.2.1⟩)) hb
theorem box_store {w0 W : World} {g t : Nat} {cs : Array Value} (hb : W.heap[g]? = some (.cells cs t (0, 0))) (x y : Value) (hB : Below w0.heap.size w0 W) (hg : w0.heap.size ≤ g) :
    ((W.setCell ⟨g, 0, none⟩ x).setCell ⟨g, 1, none⟩ y).heap[g]? = some (.cells ((cs.setIfInBounds 0 x).setIfInBounds 1 y) t (0, 0)) ∧ Kept W ((W.setCell ⟨g, 0, none⟩ x).setCell ⟨g, 1, none⟩ y) (fun k => k = g) ∧ Below w0.heap.size w0 ((W.setCell ⟨g, 0, none⟩ x).setCell ⟨g, 1, none⟩ y) :=
  ⟨blk_set (blk_set hb 0 x) 1 y, Kept.setCell (p := ⟨g, 1, none⟩) (Kept.setCell (p := ⟨g, 0, none⟩) (Kept.refl W (fun k => k = g)) (.inl rfl) x) (.inl rfl) y, below_set (below_set hB hg) hg⟩
end Go.Proofs.Ytlbcafniodfdgaa.M
end
section
namespace Go.Proofs.Ytlbcafniodfdgaa.A
open Go.RowKit Go.Proofs.YtlbcafniodfdgaaW.PrintWords Go.Proofs.YtlbcafniodfdgaaW.PrintLast Go.Proofs.YtlbcafniodfdgaaW.PrintMore Go.Proofs.Ytlbcafniodfdgaa.M
set_option linter.unusedVariables false
set_option linter.unusedSimpArgs false
def laws_FnExactCountFixed.F (k : Nat) (l0_0 : List Int) (l0_1 : List Int) (l1 : List Int) : Prop := (l1.length : Int) > 1048576 ∨ (¬ (l1.length : Int) > 1048576 ∧ (∃ s0 : Int, laws_szSurface.f l0_0 l0_1 1048576 = some s0 ∧ (s0 < 0 ∨ (¬ s0 < 0 ∧ (∃ (r0 : Int), laws_toSurface.f k l0_0 l0_1 = some (l0_0, l0_1) ∧ laws_eqSurface.f k l0_0 l0_1 l0_0 l0_1 = some true ∧ laws_toIntS.f k l1 = some l1 ∧ laws_eqIntS.f k l1 l1 = some true ∧ spec_CountFixed.f k l0_0 l0_1 l1 = some r0 ∧ impl_CountFixed.f k l0_0 l0_1 l1 = some r0)))))
set_option maxHeartbeats 8000000 in
set_option maxRecDepth 100000 in
theorem laws_FnExactCountFixed.calls (k : Nat) (A0_0 : Option Addr) (c0_0 : Nat) (l0_0 : List Int) (A0_1 : Option Addr) (c0_1 : Nat) (l0_1 : List Int) (A1 : Option Addr) (c1 : Nat) (l1 : List Int) (w : World) (hr0_0 : Kd.C (Kd.int .i64) w A0_0 l0_0.length l0_0) (hc0_0 : l0_0.length ≤ c0_0) (hr0_1 : Kd.C (Kd.int .i64) w A0_1 l0_1.length l0_1) (hc0_1 : l0_1.length ≤ c0_1) (hr1 : Kd.C (Kd.int .i64) w A1 l1.length l1) (hc1 : l1.length ≤ c1) (h : laws_FnExactCountFixed.F k l0_0 l0_1 l1) :
    Calls Try.prog 12 #[.agg #[.slice A0_0 l0_0.length c0_0, .slice A0_1 l0_1.length c0_1], .slice A1 l1.length c1] w fun e w' => e = .returned (.bool true) ∧ Below w.heap.size w w' := by
  have hu31 := Try.underlying31
  have hu34 := Try.underlying34
  have HR0_0 := Aside0.mk hr0_0; have HC0_0 := Aside0.mk hc0_0; clear hr0_0 hc0_0
  have HR0_1 := Aside0.mk hr0_1; have HC0_1 := Aside0.mk hc0_1; clear hr0_1 hc0_1
  have HR1 := Aside0.mk hr1; have HC1 := Aside0.mk hc1; clear hr1 hc1
  have HB := Aside0.mk (Below.refl w.heap.size w)
  unfold laws_FnExactCountFixed.F at h
  rcases h with hbig | ⟨hbig, h⟩
  · have hb0 : decide ((l1.length : Int) > 1048576) = true := decide_eq_true hbig
    have hb1 : decide (1048576 < (l1.length : Int)) = true := decide_eq_true hbig
    go_enter Try.func12, Try.ntmps12
    go_wp2_with (first | ((with_reducible refine gate_dst (N := 2) rfl ?_); refine box_event ?hg (N := 2) ?hd (cs := #[.slice A0_0 l0_0.length c0_0, .slice A0_1 l0_1.length c0_1]) (t := 31) ?hr ?_; (case hd => rfl); (case hg => rfl); (case hr => first | (go_simp; done) | (go_simp; rfl)); intro gbp0 hg w1 hbox hb; have HBo := HB.out; have n_ := Aside0.mk (below_then HBo HBo.size hb); clear HB; have HB := n_; clear n_; have HSw1 := Aside0.mk hb.size; have BKp0 := Aside0.mk hbox; have GIp0 := Aside0.mk (show w.heap.size ≤ gbp0 ∧ gbp0 < w1.heap.size from ⟨by omega, blk_lt hbox⟩); have GEp0 := Aside0.mk (show w.heap.size ≤ gbp0 from by have := HBo.size; omega); clear hb hbox hg HBo; have hczp0_0 : w1.cell? ⟨gbp0, 0, none⟩ = some (.slice A0_0 l0_0.length c0_0) := (blk_cell BKp0.out 0).trans rfl; have hczp0_1 : w1.cell? ⟨gbp0, 1, none⟩ = some (.slice A0_1 l0_1.length c0_1) := (blk_cell BKp0.out 1).trans rfl; have hfzp0_0 := blk_frozen BKp0.out 0; have hfzp0_1 := blk_frozen BKp0.out 1))
    go_ret
    exact ⟨rfl, HB.out⟩
  have hz1 : decide ((l1.length : Int) > 1048576) = false := decide_eq_false hbig
  have hy1 : decide (1048576 < (l1.length : Int)) = false := decide_eq_false hbig
  clear hbig
  obtain ⟨s0, FZ0, h⟩ := h
  replace FZ0 := Aside0.mk FZ0
  rcases h with hneg | ⟨hneg, h⟩
  · have hq0 : decide (s0 < 0) = true := decide_eq_true hneg
    go_enter Try.func12, Try.ntmps12
    go_upto_region 4 with (first | ((with_reducible refine gate_dst (N := 2) rfl ?_); refine box_event ?hg (N := 2) ?hd (cs := #[.slice A0_0 l0_0.length c0_0, .slice A0_1 l0_1.length c0_1]) (t := 31) ?hr ?_; (case hd => rfl); (case hg => rfl); (case hr => first | (go_simp; done) | (go_simp; rfl)); intro gbp0 hg w1 hbox hb; have HBo := HB.out; have n_ := Aside0.mk (below_then HBo HBo.size hb); clear HB; have HB := n_; clear n_; have HSw1 := Aside0.mk hb.size; have BKp0 := Aside0.mk hbox; have GIp0 := Aside0.mk (show w.heap.size ≤ gbp0 ∧ gbp0 < w1.heap.size from ⟨by omega, blk_lt hbox⟩); have GEp0 := Aside0.mk (show w.heap.size ≤ gbp0 from by have := HBo.size; omega); clear hb hbox hg HBo; have hczp0_0 : w1.cell? ⟨gbp0, 0, none⟩ = some (.slice A0_0 l0_0.length c0_0) := (blk_cell BKp0.out 0).trans rfl; have hczp0_1 : w1.cell? ⟨gbp0, 1, none⟩ = some (.slice A0_1 l0_1.length c0_1) := (blk_cell BKp0.out 1).trans rfl; have hfzp0_0 := blk_frozen BKp0.out 0; have hfzp0_1 := blk_frozen BKp0.out 1))
    go_wp2_with (first | ((with_reducible refine gate_callee (f := 20) rfl ?_); refine goesL_ _ rfl rfl Try.func20 (by kernel_rfl) rfl #[.agg #[.slice A0_0 l0_0.length c0_0, .slice A0_1 l0_1.length c0_1], .int .i64 1048576] rfl (by (try simp only [List.map_toArray, List.map_cons, List.map_nil]); first | done | rfl) ?_; have HBo := HB.out; refine (laws_szSurface.calls A0_0 c0_0 l0_0 A0_1 c0_1 l0_1 1048576 s0 _ (Kd.C_below HR0_0.out HB.out) HC0_0.out (Kd.C_below HR0_1.out HB.out) HC0_1.out FZ0.out).mono ?_; rintro e w2 ⟨rfl, hb0⟩; refine ⟨_, rfl, ?_⟩; clear hczp0_0 hfzp0_0 hczp0_1 hfzp0_1; have n_ := Aside0.mk (blk_below BKp0.out hb0); clear BKp0; have BKp0 := n_; clear n_; have n_ := Aside0.mk (below_then HBo HBo.size hb0); clear HB; have HB := n_; clear n_; have HSw2 := Aside0.mk hb0.size; clear hb0 HBo; have hczp0_0 : w2.cell? ⟨gbp0, 0, none⟩ = some (.slice A0_0 l0_0.length c0_0) := (blk_cell BKp0.out 0).trans rfl; have hczp0_1 : w2.cell? ⟨gbp0, 1, none⟩ = some (.slice A0_1 l0_1.length c0_1) := (blk_cell BKp0.out 1).trans rfl; have hfzp0_0 := blk_frozen BKp0.out 0; have hfzp0_1 := blk_frozen BKp0.out 1))
    go_ret
    exact ⟨rfl, HB.out⟩
  have hq0 : decide (s0 < 0) = false := decide_eq_false hneg
  clear hneg
  obtain ⟨r0, FS0, FE0, FS1, FE1, FW, FG⟩ := h
  replace FS0 := Aside0.mk FS0
  replace FE0 := Aside0.mk FE0
  replace FS1 := Aside0.mk FS1
  replace FE1 := Aside0.mk FE1
  replace FW := Aside0.mk FW
  replace FG := Aside0.mk FG
  go_enter Try.func12, Try.ntmps12
  go_upto_region 4 with (first | ((with_reducible refine gate_dst (N := 2) rfl ?_); refine box_event ?hg (N := 2) ?hd (cs := #[.slice A0_0 l0_0.length c0_0, .slice A0_1 l0_1.length c0_1]) (t := 31) ?hr ?_; (case hd => rfl); (case hg => rfl); (case hr => first | (go_simp; done) | (go_simp; rfl)); intro gbp0 hg w1 hbox hb; have HBo := HB.out; have n_ := Aside0.mk (below_then HBo HBo.size hb); clear HB; have HB := n_; clear n_; have HSw1 := Aside0.mk hb.size; have BKp0 := Aside0.mk hbox; have GIp0 := Aside0.mk (show w.heap.size ≤ gbp0 ∧ gbp0 < w1.heap.size from ⟨by omega, blk_lt hbox⟩); have GEp0 := Aside0.mk (show w.heap.size ≤ gbp0 from by have := HBo.size; omega); clear hb hbox hg HBo; have hczp0_0 : w1.cell? ⟨gbp0, 0, none⟩ = some (.slice A0_0 l0_0.length c0_0) := (blk_cell BKp0.out 0).trans rfl; have hczp0_1 : w1.cell? ⟨gbp0, 1, none⟩ = some (.slice A0_1 l0_1.length c0_1) := (blk_cell BKp0.out 1).trans rfl; have hfzp0_0 := blk_frozen BKp0.out 0; have hfzp0_1 := blk_frozen BKp0.out 1))
  go_upto_region 7 with (first | ((with_reducible refine gate_callee (f := 20) rfl ?_); refine goesL_ _ rfl rfl Try.func20 (by kernel_rfl) rfl #[.agg #[.slice A0_0 l0_0.length c0_0, .slice A0_1 l0_1.length c0_1], .int .i64 1048576] rfl (by (try simp only [List.map_toArray, List.map_cons, List.map_nil]); first | done | rfl) ?_; have HBo := HB.out; refine (laws_szSurface.calls A0_0 c0_0 l0_0 A0_1 c0_1 l0_1 1048576 s0 _ (Kd.C_below HR0_0.out HB.out) HC0_0.out (Kd.C_below HR0_1.out HB.out) HC0_1.out FZ0.out).mono ?_; rintro e w2 ⟨rfl, hb0⟩; refine ⟨_, rfl, ?_⟩; clear hczp0_0 hfzp0_0 hczp0_1 hfzp0_1; have n_ := Aside0.mk (blk_below BKp0.out hb0); clear BKp0; have BKp0 := n_; clear n_; have n_ := Aside0.mk (below_then HBo HBo.size hb0); clear HB; have HB := n_; clear n_; have HSw2 := Aside0.mk hb0.size; clear hb0 HBo; have hczp0_0 : w2.cell? ⟨gbp0, 0, none⟩ = some (.slice A0_0 l0_0.length c0_0) := (blk_cell BKp0.out 0).trans rfl; have hczp0_1 : w2.cell? ⟨gbp0, 1, none⟩ = some (.slice A0_1 l0_1.length c0_1) := (blk_cell BKp0.out 1).trans rfl; have hfzp0_0 := blk_frozen BKp0.out 0; have hfzp0_1 := blk_frozen BKp0.out 1))
  go_upto_region 8 with (first | ((with_reducible refine gate_callee (f := 22) rfl ?_); refine goesL_ _ rfl rfl Try.func22 (by kernel_rfl) rfl #[.agg #[.slice A0_0 l0_0.length c0_0, .slice A0_1 l0_1.length c0_1]] rfl (by (try simp only [List.map_toArray, List.map_cons, List.map_nil]); first | done | rfl) ?_; have HBo := HB.out; refine (laws_toSurface.calls k A0_0 c0_0 l0_0 A0_1 c0_1 l0_1 l0_0 l0_1 _ (Kd.C_below HR0_0.out HB.out) HC0_0.out (Kd.C_below HR0_1.out HB.out) HC0_1.out FS0.out).mono ?_; rintro e w3 ⟨v0_, v1_, rfl, h0_, h1_, hb0⟩; refine ⟨_, rfl, ?_⟩; clear hczp0_0 hfzp0_0 hczp0_1 hfzp0_1; have n_ := Aside0.mk (blk_below BKp0.out hb0); clear BKp0; have BKp0 := n_; clear n_; have n_ := Aside0.mk (below_then HBo HBo.size hb0); clear HB; have HB := n_; clear n_; have HSw3 := Aside0.mk hb0.size; have NE1 := Aside0.mk h0_.1; have Hx1a := Aside0.mk (fresh_R (b0 := w.heap.size) h0_ HBo.size); clear h0_; obtain ⟨Ax1a, cx1a, ex1a⟩ := Kd.R_slice Hx1a.out; subst ex1a; have Hx1b := Aside0.mk (fresh_R (b0 := w.heap.size) h1_ HBo.size); clear h1_; obtain ⟨Ax1b, cx1b, ex1b⟩ := Kd.R_slice Hx1b.out; subst ex1b; clear hb0 HBo; have hczp0_0 : w3.cell? ⟨gbp0, 0, none⟩ = some (.slice A0_0 l0_0.length c0_0) := (blk_cell BKp0.out 0).trans rfl; have hczp0_1 : w3.cell? ⟨gbp0, 1, none⟩ = some (.slice A0_1 l0_1.length c0_1) := (blk_cell BKp0.out 1).trans rfl; have hfzp0_0 := blk_frozen BKp0.out 0; have hfzp0_1 := blk_frozen BKp0.out 1) | ((with_reducible refine gate_callee (f := 23) rfl ?_); refine goesL_ _ rfl rfl Try.func23 (by kernel_rfl) rfl #[.slice A1 l1.length c1] rfl (by (try simp only [List.map_toArray, List.map_cons, List.map_nil]); first | done | rfl) ?_; have HBo := HB.out; refine (laws_toIntS.calls k A1 c1 l1 l1 _ (Kd.C_below HR1.out HB.out) HC1.out FS1.out).mono ?_; rintro e w4 ⟨v0_, rfl, h0_, hb0⟩; refine ⟨_, rfl, ?_⟩; clear hczp0_0 hfzp0_0 hczp0_1 hfzp0_1; have n_ := Aside0.mk (blk_below BKp0.out hb0); clear BKp0; have BKp0 := n_; clear n_; have n_ := Aside0.mk (Kd.R_below Hx1a.out hb0); clear Hx1a; have Hx1a := n_; clear n_; have n_ := Aside0.mk (Kd.R_below Hx1b.out hb0); clear Hx1b; have Hx1b := n_; clear n_; have n_ := Aside0.mk (below_then HBo HBo.size hb0); clear HB; have HB := n_; clear n_; have HSw4 := Aside0.mk hb0.size; have Hx2a := Aside0.mk (fresh_R (b0 := w.heap.size) h0_ HBo.size); clear h0_; obtain ⟨Ax2a, cx2a, ex2a⟩ := Kd.R_slice Hx2a.out; subst ex2a; clear hb0 HBo; have hczp0_0 : w4.cell? ⟨gbp0, 0, none⟩ = some (.slice A0_0 l0_0.length c0_0) := (blk_cell BKp0.out 0).trans rfl; have hczp0_1 : w4.cell? ⟨gbp0, 1, none⟩ = some (.slice A0_1 l0_1.length c0_1) := (blk_cell BKp0.out 1).trans rfl; have hfzp0_0 := blk_frozen BKp0.out 0; have hfzp0_1 := blk_frozen BKp0.out 1) | ((with_reducible refine gate_callee (f := 48) rfl ?_); refine goesL_ _ rfl rfl Try.func48 (by kernel_rfl) rfl #[.agg #[.slice Ax1a l0_0.length cx1a, .slice Ax1b l0_1.length cx1b], .slice Ax2a l1.length cx2a] rfl (by (try simp only [List.map_toArray, List.map_cons, List.map_nil]); first | done | rfl) ?_; have HBo := HB.out; refine (spec_CountFixed.calls k Ax1a cx1a l0_0 Ax1b cx1b l0_1 Ax2a cx2a l1 r0 _ (Kd.R_reads' Hx1a.out).2.2 (Kd.R_reads' Hx1a.out).2.1 (Kd.R_reads' Hx1b.out).2.2 (Kd.R_reads' Hx1b.out).2.1 (Kd.R_reads' Hx2a.out).2.2 (Kd.R_reads' Hx2a.out).2.1 FW.out).mono ?_; rintro e w5 ⟨rfl, hb0⟩; refine ⟨_, rfl, ?_⟩; clear hczp0_0 hfzp0_0 hczp0_1 hfzp0_1; have n_ := Aside0.mk (blk_below BKp0.out hb0); clear BKp0; have BKp0 := n_; clear n_; have n_ := Aside0.mk (Kd.R_below Hx1a.out hb0); clear Hx1a; have Hx1a := n_; clear n_; have n_ := Aside0.mk (Kd.R_below Hx1b.out hb0); clear Hx1b; have Hx1b := n_; clear n_; have n_ := Aside0.mk (Kd.R_below Hx2a.out hb0); clear Hx2a; have Hx2a := n_; clear n_; have n_ := Aside0.mk (below_then HBo HBo.size hb0); clear HB; have HB := n_; clear n_; have HSw5 := Aside0.mk hb0.size; clear hb0 HBo; have hczp0_0 : w5.cell? ⟨gbp0, 0, none⟩ = some (.slice A0_0 l0_0.length c0_0) := (blk_cell BKp0.out 0).trans rfl; have hczp0_1 : w5.cell? ⟨gbp0, 1, none⟩ = some (.slice A0_1 l0_1.length c0_1) := (blk_cell BKp0.out 1).trans rfl; have hfzp0_0 := blk_frozen BKp0.out 0; have hfzp0_1 := blk_frozen BKp0.out 1; clear Hx1a Hx1b Hx2a))
  go_upto_region 9 with (first | ((with_reducible refine gate_callee (f := 22) rfl ?_); refine goesL_ _ rfl rfl Try.func22 (by kernel_rfl) rfl #[.agg #[.slice A0_0 l0_0.length c0_0, .slice A0_1 l0_1.length c0_1]] rfl (by (try simp only [List.map_toArray, List.map_cons, List.map_nil]); first | done | rfl) ?_; have HBo := HB.out; refine (laws_toSurface.calls k A0_0 c0_0 l0_0 A0_1 c0_1 l0_1 l0_0 l0_1 _ (Kd.C_below HR0_0.out HB.out) HC0_0.out (Kd.C_below HR0_1.out HB.out) HC0_1.out FS0.out).mono ?_; rintro e w6 ⟨v0_, v1_, rfl, h0_, h1_, hb0⟩; refine ⟨_, rfl, ?_⟩; clear hczp0_0 hfzp0_0 hczp0_1 hfzp0_1; have n_ := Aside0.mk (blk_below BKp0.out hb0); clear BKp0; have BKp0 := n_; clear n_; have n_ := Aside0.mk (below_then HBo HBo.size hb0); clear HB; have HB := n_; clear n_; have HSw6 := Aside0.mk hb0.size; have NE3 := Aside0.mk h0_.1; have Hx3a := Aside0.mk (fresh_R (b0 := w.heap.size) h0_ HBo.size); clear h0_; obtain ⟨Ax3a, cx3a, ex3a⟩ := Kd.R_slice Hx3a.out; subst ex3a; have Hx3b := Aside0.mk (fresh_R (b0 := w.heap.size) h1_ HBo.size); clear h1_; obtain ⟨Ax3b, cx3b, ex3b⟩ := Kd.R_slice Hx3b.out; subst ex3b; clear hb0 HBo; have hczp0_0 : w6.cell? ⟨gbp0, 0, none⟩ = some (.slice A0_0 l0_0.length c0_0) := (blk_cell BKp0.out 0).trans rfl; have hczp0_1 : w6.cell? ⟨gbp0, 1, none⟩ = some (.slice A0_1 l0_1.length c0_1) := (blk_cell BKp0.out 1).trans rfl; have hfzp0_0 := blk_frozen BKp0.out 0; have hfzp0_1 := blk_frozen BKp0.out 1) | ((with_reducible refine gate_dst (N := 7) rfl ?_); refine box_event ?hg (N := 7) ?hd (cs := #[.slice none 0 0, .slice none 0 0]) (t := 34) ?hr ?_; (case hd => rfl); (case hg => rfl); (case hr => first | (go_simp; done) | (go_simp; rfl)); intro gbx0 hg w7 hbox hb; clear hczp0_0 hfzp0_0 hczp0_1 hfzp0_1; have HBo := HB.out; have n_ := Aside0.mk (blk_below BKp0.out hb); clear BKp0; have BKp0 := n_; clear n_; have n_ := Aside0.mk (Kd.R_below Hx3a.out hb); clear Hx3a; have Hx3a := n_; clear n_; have n_ := Aside0.mk (Kd.R_below Hx3b.out hb); clear Hx3b; have Hx3b := n_; clear n_; have n_ := Aside0.mk (below_then HBo HBo.size hb); clear HB; have HB := n_; clear n_; have HSw7 := Aside0.mk hb.size; have BKx0 := Aside0.mk hbox; have GIx0 := Aside0.mk (show w6.heap.size ≤ gbx0 ∧ gbx0 < w7.heap.size from ⟨by omega, blk_lt hbox⟩); have GEx0 := Aside0.mk (show w.heap.size ≤ gbx0 from by have := HBo.size; omega); clear hb hbox hg HBo; have hczp0_0 : w7.cell? ⟨gbp0, 0, none⟩ = some (.slice A0_0 l0_0.length c0_0) := (blk_cell BKp0.out 0).trans rfl; have hczp0_1 : w7.cell? ⟨gbp0, 1, none⟩ = some (.slice A0_1 l0_1.length c0_1) := (blk_cell BKp0.out 1).trans rfl; have hfzp0_0 := blk_frozen BKp0.out 0; have hfzp0_1 := blk_frozen BKp0.out 1; have hczx0_0 : w7.cell? ⟨gbx0, 0, none⟩ = some (.slice none 0 0) := (blk_cell BKx0.out 0).trans rfl; have hczx0_1 : w7.cell? ⟨gbx0, 1, none⟩ = some (.slice none 0 0) := (blk_cell BKx0.out 1).trans rfl; have hfzx0_0 := blk_frozen BKx0.out 0; have hfzx0_1 := blk_frozen BKx0.out 1) | ((with_reducible refine gate_store (t := 34) (p := 7) rfl ?_); refine store_event (t := 34) (p := 7) (v := ?vo) (w1 := ((w7.setCell ⟨gbx0, 0, none⟩ (.slice Ax3a l0_0.length cx3a)).setCell ⟨gbx0, 1, none⟩ (.slice Ax3b l0_1.length cx3b))) ?hg ?ho ?hn ?hr ?_; (case ho => rfl); (case hg => rfl); (case hn => rfl); (case hr => first | (go_simp; done) | (go_simp; rfl)); intro wq hw; subst hw; obtain ⟨hbox, hkp, hB2⟩ := box_store BKx0.out (.slice Ax3a l0_0.length cx3a) (.slice Ax3b l0_1.length cx3b) HB.out GEx0.out; generalize hw : ((w7.setCell ⟨gbx0, 0, none⟩ (.slice Ax3a l0_0.length cx3a)).setCell ⟨gbx0, 1, none⟩ (.slice Ax3b l0_1.length cx3b)) = w8 at hbox hkp hB2 ⊢; clear hw; clear hczp0_0 hfzp0_0 hczp0_1 hfzp0_1 hczx0_0 hfzx0_0 hczx0_1 hfzx0_1; have n_ := Aside0.mk (blk_kept (g := gbp0) BKp0.out hkp (fun hs => by have hk := GIp0.out; have := hk.1; have := hk.2; have := GIx0.out; have := HSw1.out; have := HSw2.out; have := HSw3.out; have := HSw4.out; have := HSw5.out; have := HSw6.out; have := HSw7.out; omega)); clear BKp0; have BKp0 := n_; clear n_; have n_ := Aside0.mk (Kd.R_kept Hx3a.out hkp (fun k_ hk hs => by have := hk.1; have := hk.2; have := GIx0.out; have := HSw1.out; have := HSw2.out; have := HSw3.out; have := HSw4.out; have := HSw5.out; have := HSw6.out; have := HSw7.out; omega)); clear Hx3a; have Hx3a := n_; clear n_; have n_ := Aside0.mk (Kd.R_kept Hx3b.out hkp (fun k_ hk hs => by have := hk.1; have := hk.2; have := GIx0.out; have := HSw1.out; have := HSw2.out; have := HSw3.out; have := HSw4.out; have := HSw5.out; have := HSw6.out; have := HSw7.out; omega)); clear Hx3b; have Hx3b := n_; clear n_; have n_ := Aside0.mk (hB2); clear HB; have HB := n_; clear n_; have HSw8 := Aside0.mk hkp.1; clear BKx0; have BKx0 := Aside0.mk (show w8.heap[gbx0]? = some (.cells #[.slice Ax3a l0_0.length cx3a, .slice Ax3b l0_1.length cx3b] 34 (0, 0)) from hbox); clear hbox hkp hB2; have hczp0_0 : w8.cell? ⟨gbp0, 0, none⟩ = some (.slice A0_0 l0_0.length c0_0) := (blk_cell BKp0.out 0).trans rfl; have hczp0_1 : w8.cell? ⟨gbp0, 1, none⟩ = some (.slice A0_1 l0_1.length c0_1) := (blk_cell BKp0.out 1).trans rfl; have hfzp0_0 := blk_frozen BKp0.out 0; have hfzp0_1 := blk_frozen BKp0.out 1; have hczx0_0 : w8.cell? ⟨gbx0, 0, none⟩ = some (.slice Ax3a l0_0.length cx3a) := (blk_cell BKx0.out 0).trans rfl; have hczx0_1 : w8.cell? ⟨gbx0, 1, none⟩ = some (.slice Ax3b l0_1.length cx3b) := (blk_cell BKx0.out 1).trans rfl; have hfzx0_0 := blk_frozen BKx0.out 0; have hfzx0_1 := blk_frozen BKx0.out 1))
  go_upto_region 10 with (first | ((with_reducible refine gate_callee (f := 23) rfl ?_); refine goesL_ _ rfl rfl Try.func23 (by kernel_rfl) rfl #[.slice A1 l1.length c1] rfl (by (try simp only [List.map_toArray, List.map_cons, List.map_nil]); first | done | rfl) ?_; have HBo := HB.out; refine (laws_toIntS.calls k A1 c1 l1 l1 _ (Kd.C_below HR1.out HB.out) HC1.out FS1.out).mono ?_; rintro e w9 ⟨v0_, rfl, h0_, hb0⟩; refine ⟨_, rfl, ?_⟩; clear hczp0_0 hfzp0_0 hczp0_1 hfzp0_1 hczx0_0 hfzx0_0 hczx0_1 hfzx0_1; have n_ := Aside0.mk (blk_below BKp0.out hb0); clear BKp0; have BKp0 := n_; clear n_; have n_ := Aside0.mk (Kd.R_below Hx3a.out hb0); clear Hx3a; have Hx3a := n_; clear n_; have n_ := Aside0.mk (Kd.R_below Hx3b.out hb0); clear Hx3b; have Hx3b := n_; clear n_; have n_ := Aside0.mk (blk_below BKx0.out hb0); clear BKx0; have BKx0 := n_; clear n_; have n_ := Aside0.mk (below_then HBo HBo.size hb0); clear HB; have HB := n_; clear n_; have HSw9 := Aside0.mk hb0.size; have Hx4a := Aside0.mk (fresh_R (b0 := w.heap.size) h0_ HBo.size); clear h0_; obtain ⟨Ax4a, cx4a, ex4a⟩ := Kd.R_slice Hx4a.out; subst ex4a; clear hb0 HBo; have hczp0_0 : w9.cell? ⟨gbp0, 0, none⟩ = some (.slice A0_0 l0_0.length c0_0) := (blk_cell BKp0.out 0).trans rfl; have hczp0_1 : w9.cell? ⟨gbp0, 1, none⟩ = some (.slice A0_1 l0_1.length c0_1) := (blk_cell BKp0.out 1).trans rfl; have hfzp0_0 := blk_frozen BKp0.out 0; have hfzp0_1 := blk_frozen BKp0.out 1; have hczx0_0 : w9.cell? ⟨gbx0, 0, none⟩ = some (.slice Ax3a l0_0.length cx3a) := (blk_cell BKx0.out 0).trans rfl; have hczx0_1 : w9.cell? ⟨gbx0, 1, none⟩ = some (.slice Ax3b l0_1.length cx3b) := (blk_cell BKx0.out 1).trans rfl; have hfzx0_0 := blk_frozen BKx0.out 0; have hfzx0_1 := blk_frozen BKx0.out 1))
  go_upto_region 13 with (first | ((with_reducible refine gate_callee (f := 49) rfl ?_); refine goesL_ _ rfl rfl Try.func49 (by kernel_rfl) rfl #[.agg #[.slice Ax3a l0_0.length cx3a, .slice Ax3b l0_1.length cx3b], .slice Ax4a l1.length cx4a] rfl (by (try simp only [List.map_toArray, List.map_cons, List.map_nil]); first | done | rfl) ?_; have HBo := HB.out; refine (impl_CountFixed.calls k Ax3a cx3a l0_0 Ax3b cx3b l0_1 Ax4a cx4a l1 r0 _ (Kd.R_reads' Hx3a.out).2.2 (Kd.R_reads' Hx3a.out).2.1 (Kd.R_reads' Hx3b.out).2.2 (Kd.R_reads' Hx3b.out).2.1 (Kd.R_reads' Hx4a.out).2.2 (Kd.R_reads' Hx4a.out).2.1 FG.out).mono ?_; rintro e w10 ⟨rfl, hb0⟩; refine ⟨_, rfl, ?_⟩; clear hczp0_0 hfzp0_0 hczp0_1 hfzp0_1 hczx0_0 hfzx0_0 hczx0_1 hfzx0_1; have n_ := Aside0.mk (blk_below BKp0.out hb0); clear BKp0; have BKp0 := n_; clear n_; have n_ := Aside0.mk (Kd.R_below Hx3a.out hb0); clear Hx3a; have Hx3a := n_; clear n_; have n_ := Aside0.mk (Kd.R_below Hx3b.out hb0); clear Hx3b; have Hx3b := n_; clear n_; have n_ := Aside0.mk (blk_below BKx0.out hb0); clear BKx0; have BKx0 := n_; clear n_; have n_ := Aside0.mk (Kd.R_below Hx4a.out hb0); clear Hx4a; have Hx4a := n_; clear n_; have n_ := Aside0.mk (below_then HBo HBo.size hb0); clear HB; have HB := n_; clear n_; have HSw10 := Aside0.mk hb0.size; clear hb0 HBo; have hczp0_0 : w10.cell? ⟨gbp0, 0, none⟩ = some (.slice A0_0 l0_0.length c0_0) := (blk_cell BKp0.out 0).trans rfl; have hczp0_1 : w10.cell? ⟨gbp0, 1, none⟩ = some (.slice A0_1 l0_1.length c0_1) := (blk_cell BKp0.out 1).trans rfl; have hfzp0_0 := blk_frozen BKp0.out 0; have hfzp0_1 := blk_frozen BKp0.out 1; have hczx0_0 : w10.cell? ⟨gbx0, 0, none⟩ = some (.slice Ax3a l0_0.length cx3a) := (blk_cell BKx0.out 0).trans rfl; have hczx0_1 : w10.cell? ⟨gbx0, 1, none⟩ = some (.slice Ax3b l0_1.length cx3b) := (blk_cell BKx0.out 1).trans rfl; have hfzx0_0 := blk_frozen BKx0.out 0; have hfzx0_1 := blk_frozen BKx0.out 1))
  clear hczp0_0 hfzp0_0 hczp0_1 hfzp0_1 hczx0_0 hfzx0_0 hczx0_1 hfzx0_1
  have n_ := Aside0.mk (blk_drew BKp0.out)
  clear BKp0
  have BKp0 := n_
  clear n_
  have n_ := Aside0.mk (Kd.R_drew Hx3a.out)
  clear Hx3a
  have Hx3a := n_
  clear n_
  have n_ := Aside0.mk (Kd.R_drew Hx3b.out)
  clear Hx3b
  have Hx3b := n_
  clear n_
  have n_ := Aside0.mk (blk_drew BKx0.out)
  clear BKx0
  have BKx0 := n_
  clear n_
  have n_ := Aside0.mk (Kd.R_drew Hx4a.out)
  clear Hx4a
  have Hx4a := n_
  clear n_
  have n_ := Aside0.mk (below_drew1 HB.out)
  clear HB
  have HB := n_
  clear n_
  have HSw12 := Aside0.mk (show w10.heap.size ≤ w10.drew.heap.size from Nat.le_refl _)
  refine start_ (n := 5) (S := fun w' => w'.cell? ⟨gbp0, 0, none⟩ = some (.slice A0_0 l0_0.length c0_0) ∧ w'.cell? ⟨gbp0, 1, none⟩ = some (.slice A0_1 l0_1.length c0_1) ∧ w'.cell? ⟨gbx0, 0, none⟩ = some (.slice Ax3a l0_0.length cx3a) ∧ w'.cell? ⟨gbx0, 1, none⟩ = some (.slice Ax3b l0_1.length cx3b)) (ds := []) #[false, false, false, false, false] (by kernel_rfl) rfl rfl ⟨(blk_cell BKp0.out 0).trans rfl, (blk_cell BKp0.out 1).trans rfl, (blk_cell BKx0.out 0).trans rfl, (blk_cell BKx0.out 1).trans rfl⟩ (fun hHeld => ?_)
  generalize hwd : w10.drew = w12 at BKp0 Hx3a Hx3b BKx0 Hx4a HB HSw12 hHeld ⊢
  clear hwd
  refine take_ (i := 0) (N := some 33) (v := ?_) (a' := ?_) #[true, false, false, false, false] rfl rfl (by kernel_rfl) (fun _ _ _ h => h) (Or.inl ⟨by rfl, ?_⟩) hHeld ?_ ?_
  rotate_left
  · rintro w' ⟨s0, s1, s2, s3⟩
    go_simp
    with_reducible rfl
  rotate_left
  · simp only [Act.put, List.setIfInBounds_toArray, List.set_cons_zero, List.set_cons_succ, i64_w, i32_w]
    rfl
  refine take_ (i := 1) (N := some 34) (v := ?_) (a' := ?_) #[true, true, false, false, false] rfl rfl (by kernel_rfl) (fun _ _ _ h => h) (Or.inl ⟨by rfl, ?_⟩) hHeld ?_ ?_
  rotate_left
  · rintro w' ⟨s0, s1, s2, s3⟩
    go_simp
    with_reducible rfl
  rotate_left
  · simp only [Act.put, List.setIfInBounds_toArray, List.set_cons_zero, List.set_cons_succ, i64_w, i32_w]
    rfl
  refine one_ (i := 2) (N := some 35) #[true, true, true, false, false] rfl rfl (by kernel_rfl) (by decide) (fun K hK => ?_)
  replace hK := Aside0.mk hK
  refine goes_ Try.func22 (by kernel_rfl) rfl #[.agg #[.slice A0_0 l0_0.length c0_0, .slice A0_1 l0_1.length c0_1]] (by rfl) rfl rfl (by (try simp only [List.map_toArray, List.map_cons, List.map_nil]); first | done | rfl) ?_
  have HBo := HB.out
  refine (laws_toSurface.calls k A0_0 c0_0 l0_0 A0_1 c0_1 l0_1 l0_0 l0_1 _ (Kd.C_below HR0_0.out HB.out) HC0_0.out (Kd.C_below HR0_1.out HB.out) HC0_1.out FS0.out).mono ?_
  rintro e w13 ⟨v0_, v1_, rfl, h0_, h1_, hb0⟩
  refine ⟨_, rfl, ?_⟩
  clear hHeld
  have n_ := Aside0.mk (blk_below BKp0.out hb0)
  clear BKp0
  have BKp0 := n_
  clear n_
  have n_ := Aside0.mk (Kd.R_below Hx3a.out hb0)
  clear Hx3a
  have Hx3a := n_
  clear n_
  have n_ := Aside0.mk (Kd.R_below Hx3b.out hb0)
  clear Hx3b
  have Hx3b := n_
  clear n_
  have n_ := Aside0.mk (blk_below BKx0.out hb0)
  clear BKx0
  have BKx0 := n_
  clear n_
  have n_ := Aside0.mk (Kd.R_below Hx4a.out hb0)
  clear Hx4a
  have Hx4a := n_
  clear n_
  have n_ := Aside0.mk (below_then HBo HBo.size hb0)
  clear HB
  have HB := n_
  clear n_
  have HSw13 := Aside0.mk hb0.size
  have NE5 := Aside0.mk h0_.1
  have Hx5a := Aside0.mk (fresh_R (b0 := w.heap.size) h0_ HBo.size)
  clear h0_
  obtain ⟨Ax5a, cx5a, ex5a⟩ := Kd.R_slice Hx5a.out
  subst ex5a
  have Hx5b := Aside0.mk (fresh_R (b0 := w.heap.size) h1_ HBo.size)
  clear h1_
  obtain ⟨Ax5b, cx5b, ex5b⟩ := Kd.R_slice Hx5b.out
  subst ex5b
  clear hb0 HBo
  refine hK.out _ _ ⟨(blk_cell BKp0.out 0).trans rfl, (blk_cell BKp0.out 1).trans rfl, (blk_cell BKx0.out 0).trans rfl, (blk_cell BKx0.out 1).trans rfl⟩ (fun hHeld => ?_)
  clear hK K
  refine norm_ (a' := ?_) ?_ ?_
  rotate_left
  · show Act.put _ (some 35) _ = _
    simp only [Act.put, List.setIfInBounds_toArray, List.set_cons_zero, List.set_cons_succ, i64_w, i32_w]
    rfl
  refine one_ (i := 3) (N := some 36) #[true, true, true, true, false] rfl rfl (by kernel_rfl) (by decide) (fun K hK => ?_)
  replace hK := Aside0.mk hK
  refine goes_ Try.func25 (by kernel_rfl) rfl #[.agg #[.slice Ax3a l0_0.length cx3a, .slice Ax3b l0_1.length cx3b], .agg #[.slice Ax5a l0_0.length cx5a, .slice Ax5b l0_1.length cx5b]] (by rfl) rfl rfl (by (try simp only [List.map_toArray, List.map_cons, List.map_nil]); first | done | rfl) ?_
  have HBo := HB.out
  refine (laws_eqSurface.calls k Ax3a cx3a l0_0 Ax3b cx3b l0_1 Ax5a cx5a l0_0 Ax5b cx5b l0_1 true _ (Kd.R_reads' Hx3a.out).2.2 (Kd.R_reads' Hx3a.out).2.1 (Kd.R_reads' Hx3b.out).2.2 (Kd.R_reads' Hx3b.out).2.1 (Kd.R_reads' Hx5a.out).2.2 (Kd.R_reads' Hx5a.out).2.1 (Kd.R_reads' Hx5b.out).2.2 (Kd.R_reads' Hx5b.out).2.1 FE0.out).mono ?_
  rintro e w14 ⟨rfl, hb0⟩
  refine ⟨_, rfl, ?_⟩
  clear hHeld
  have n_ := Aside0.mk (blk_below BKp0.out hb0)
  clear BKp0
  have BKp0 := n_
  clear n_
  have n_ := Aside0.mk (Kd.R_below Hx3a.out hb0)
  clear Hx3a
  have Hx3a := n_
  clear n_
  have n_ := Aside0.mk (Kd.R_below Hx3b.out hb0)
  clear Hx3b
  have Hx3b := n_
  clear n_
  have n_ := Aside0.mk (blk_below BKx0.out hb0)
  clear BKx0
  have BKx0 := n_
  clear n_
  have n_ := Aside0.mk (Kd.R_below Hx4a.out hb0)
  clear Hx4a
  have Hx4a := n_
  clear n_
  have n_ := Aside0.mk (Kd.R_below Hx5a.out hb0)
  clear Hx5a
  have Hx5a := n_
  clear n_
  have n_ := Aside0.mk (Kd.R_below Hx5b.out hb0)
  clear Hx5b
  have Hx5b := n_
  clear n_
  have n_ := Aside0.mk (below_then HBo HBo.size hb0)
  clear HB
  have HB := n_
  clear n_
  have HSw14 := Aside0.mk hb0.size
  clear hb0 HBo
  refine hK.out _ _ ⟨(blk_cell BKp0.out 0).trans rfl, (blk_cell BKp0.out 1).trans rfl, (blk_cell BKx0.out 0).trans rfl, (blk_cell BKx0.out 1).trans rfl⟩ (fun hHeld => ?_)
  clear hK K
  refine norm_ (a' := ?_) ?_ ?_
  rotate_left
  · show Act.put _ (some 36) _ = _
    simp only [Act.put, List.setIfInBounds_toArray, List.set_cons_zero, List.set_cons_succ, i64_w, i32_w]
    rfl
  refine pure_ (i := 4) (N := some 37) (v := ?_) (a' := ?_) #[true, true, true, true, true] rfl rfl (by kernel_rfl) (fun _ _ _ h => h) (Or.inl ⟨by rfl, ?_⟩) ?_ ?_
  rotate_left
  · intro w'
    go_simp
    with_reducible rfl
  rotate_left
  · simp only [Act.put, List.setIfInBounds_toArray, List.set_cons_zero, List.set_cons_succ, i64_w, i32_w]
    rfl
  refine done_ (by kernel_rfl) ?_
  clear hHeld
  have hczp0_0 : w14.cell? ⟨gbp0, 0, none⟩ = some (.slice A0_0 l0_0.length c0_0) := (blk_cell BKp0.out 0).trans rfl
  have hczp0_1 : w14.cell? ⟨gbp0, 1, none⟩ = some (.slice A0_1 l0_1.length c0_1) := (blk_cell BKp0.out 1).trans rfl
  have hfzp0_0 := blk_frozen BKp0.out 0
  have hfzp0_1 := blk_frozen BKp0.out 1
  have hczx0_0 : w14.cell? ⟨gbx0, 0, none⟩ = some (.slice Ax3a l0_0.length cx3a) := (blk_cell BKx0.out 0).trans rfl
  have hczx0_1 : w14.cell? ⟨gbx0, 1, none⟩ = some (.slice Ax3b l0_1.length cx3b) := (blk_cell BKx0.out 1).trans rfl
  have hfzx0_0 := blk_frozen BKx0.out 0
  have hfzx0_1 := blk_frozen BKx0.out 1
  clear Hx5a Hx5b
  go_upto_region 15 with (fail)
  go_wp2_with (first | ((with_reducible refine gate_callee (f := 23) rfl ?_); refine goesL_ _ rfl rfl Try.func23 (by kernel_rfl) rfl #[.slice A1 l1.length c1] rfl (by (try simp only [List.map_toArray, List.map_cons, List.map_nil]); first | done | rfl) ?_; have HBo := HB.out; refine (laws_toIntS.calls k A1 c1 l1 l1 _ (Kd.C_below HR1.out HB.out) HC1.out FS1.out).mono ?_; rintro e w15 ⟨v0_, rfl, h0_, hb0⟩; refine ⟨_, rfl, ?_⟩; clear hczp0_0 hfzp0_0 hczp0_1 hfzp0_1 hczx0_0 hfzx0_0 hczx0_1 hfzx0_1; have n_ := Aside0.mk (blk_below BKp0.out hb0); clear BKp0; have BKp0 := n_; clear n_; have n_ := Aside0.mk (Kd.R_below Hx3a.out hb0); clear Hx3a; have Hx3a := n_; clear n_; have n_ := Aside0.mk (Kd.R_below Hx3b.out hb0); clear Hx3b; have Hx3b := n_; clear n_; have n_ := Aside0.mk (blk_below BKx0.out hb0); clear BKx0; have BKx0 := n_; clear n_; have n_ := Aside0.mk (Kd.R_below Hx4a.out hb0); clear Hx4a; have Hx4a := n_; clear n_; have n_ := Aside0.mk (below_then HBo HBo.size hb0); clear HB; have HB := n_; clear n_; have HSw15 := Aside0.mk hb0.size; have Hx6a := Aside0.mk (fresh_R (b0 := w.heap.size) h0_ HBo.size); clear h0_; obtain ⟨Ax6a, cx6a, ex6a⟩ := Kd.R_slice Hx6a.out; subst ex6a; clear hb0 HBo; have hczp0_0 : w15.cell? ⟨gbp0, 0, none⟩ = some (.slice A0_0 l0_0.length c0_0) := (blk_cell BKp0.out 0).trans rfl; have hczp0_1 : w15.cell? ⟨gbp0, 1, none⟩ = some (.slice A0_1 l0_1.length c0_1) := (blk_cell BKp0.out 1).trans rfl; have hfzp0_0 := blk_frozen BKp0.out 0; have hfzp0_1 := blk_frozen BKp0.out 1; have hczx0_0 : w15.cell? ⟨gbx0, 0, none⟩ = some (.slice Ax3a l0_0.length cx3a) := (blk_cell BKx0.out 0).trans rfl; have hczx0_1 : w15.cell? ⟨gbx0, 1, none⟩ = some (.slice Ax3b l0_1.length cx3b) := (blk_cell BKx0.out 1).trans rfl; have hfzx0_0 := blk_frozen BKx0.out 0; have hfzx0_1 := blk_frozen BKx0.out 1) | ((with_reducible refine gate_callee (f := 26) rfl ?_); refine goesL_ _ rfl rfl Try.func26 (by kernel_rfl) rfl #[.slice Ax4a l1.length cx4a, .slice Ax6a l1.length cx6a] rfl (by (try simp only [List.map_toArray, List.map_cons, List.map_nil]); first | done | rfl) ?_; have HBo := HB.out; refine (laws_eqIntS.calls k Ax4a cx4a l1 Ax6a cx6a l1 true _ (Kd.R_reads' Hx4a.out).2.2 (Kd.R_reads' Hx4a.out).2.1 (Kd.R_reads' Hx6a.out).2.2 (Kd.R_reads' Hx6a.out).2.1 FE1.out).mono ?_; rintro e w16 ⟨rfl, hd⟩; refine ⟨_, rfl, ?_⟩; clear hczp0_0 hfzp0_0 hczp0_1 hfzp0_1 hczx0_0 hfzx0_0 hczx0_1 hfzx0_1; replace hd := Drawn0.below hd; have n_ := Aside0.mk (blk_below BKp0.out hd); clear BKp0; have BKp0 := n_; clear n_; have n_ := Aside0.mk (Kd.R_below Hx3a.out hd); clear Hx3a; have Hx3a := n_; clear n_; have n_ := Aside0.mk (Kd.R_below Hx3b.out hd); clear Hx3b; have Hx3b := n_; clear n_; have n_ := Aside0.mk (blk_below BKx0.out hd); clear BKx0; have BKx0 := n_; clear n_; have n_ := Aside0.mk (Kd.R_below Hx4a.out hd); clear Hx4a; have Hx4a := n_; clear n_; have n_ := Aside0.mk (Kd.R_below Hx6a.out hd); clear Hx6a; have Hx6a := n_; clear n_; have n_ := Aside0.mk (below_then HBo HBo.size hd); clear HB; have HB := n_; clear n_; have HSw16 := Aside0.mk hd.size; clear hd HBo; have hczp0_0 : w16.cell? ⟨gbp0, 0, none⟩ = some (.slice A0_0 l0_0.length c0_0) := (blk_cell BKp0.out 0).trans rfl; have hczp0_1 : w16.cell? ⟨gbp0, 1, none⟩ = some (.slice A0_1 l0_1.length c0_1) := (blk_cell BKp0.out 1).trans rfl; have hfzp0_0 := blk_frozen BKp0.out 0; have hfzp0_1 := blk_frozen BKp0.out 1; have hczx0_0 : w16.cell? ⟨gbx0, 0, none⟩ = some (.slice Ax3a l0_0.length cx3a) := (blk_cell BKx0.out 0).trans rfl; have hczx0_1 : w16.cell? ⟨gbx0, 1, none⟩ = some (.slice Ax3b l0_1.length cx3b) := (blk_cell BKx0.out 1).trans rfl; have hfzx0_0 := blk_frozen BKx0.out 0; have hfzx0_1 := blk_frozen BKx0.out 1; clear Hx6a))
  go_ret
  exact ⟨rfl, HB.out⟩
end Go.Proofs.Ytlbcafniodfdgaa.A
end
section
/- Plain mathematics: permutations as lists of numbers. No conditions. -/
namespace Go.Proofs.Ytlbcafniodfdgaa.M
set_option linter.unusedVariables false
set_option linter.unusedSimpArgs false
def I (l : List Nat) : List Int := l.map Int.ofNat
def g (p : List Nat) (i : Nat) : Nat := p.getD i 0
def tab (n : Nat) (f : Nat → Nat) : List Nat := (List.range n).map f
theorem I_len (l : List Nat) : (I l).length = l.length := by simp [I]
theorem I_inj {a b : List Nat} (h : I a = I b) : a = b := by
  unfold I at h
  exact (List.map_inj_right (fun x y hxy => Int.ofNat.inj hxy)).mp h
theorem tab_len (n : Nat) (f : Nat → Nat) : (tab n f).length = n := by simp [tab]
theorem g_tab {n : Nat} {f : Nat → Nat} {i : Nat} (h : i < n) : g (tab n f) i = f i := by simp [g, tab, List.getD_eq_getElem?_getD, h]
theorem g_get {p : List Nat} {i : Nat} (h : i < p.length) : g p i = p[i] := by simp [g, List.getD_eq_getElem?_getD, h]
theorem g_mem {p : List Nat} {i : Nat} (h : i < p.length) : g p i ∈ p := by rw [g_get h]; exact List.getElem_mem h
theorem mem_g {p : List Nat} {x : Nat} (h : x ∈ p) : ∃ i, i < p.length ∧ g p i = x := by
  obtain ⟨i, hi, rfl⟩ := List.mem_iff_getElem.mp h
  exact ⟨i, hi, g_get hi⟩
theorem ext_g {a b : List Nat} (hl : a.length = b.length) (h : ∀ i, i < a.length → g a i = g b i) : a = b := by
  apply List.ext_getElem hl
  intro i h1 h2
  rw [← g_get h1, ← g_get h2]
  exact h i h1
theorem eq_tab {l : List Nat} {n : Nat} {f : Nat → Nat} (hl : l.length = n) (h : ∀ i, i < n → g l i = f i) : l = tab n f :=
  ext_g (by rw [tab_len, hl]) (fun i hi => by rw [hl] at hi; rw [g_tab hi, h i hi])
theorem g_set {p : List Nat} {i x j : Nat} (h : i < p.length) : g (p.set i x) j = if i = j then x else g p j := by
  unfold g
  rw [List.getD_eq_getElem?_getD, List.getD_eq_getElem?_getD, List.getElem?_set]
  by_cases e : i = j
  · subst e
    simp [h]
  · simp [e]
theorem I_set (p : List Nat) (i x : Nat) : (I p).set i (x : Int) = I (p.set i x) := by simp [I, List.map_set]
theorem I_snoc (p : List Nat) (x : Nat) : I p ++ [(x : Int)] = I (p ++ [x]) := by simp [I]
theorem I_rep (n x : Nat) : I (List.replicate n x) = List.replicate n (x : Int) := by simp [I]
structure IsP (p : List Nat) : Prop where
  lt : ∀ x ∈ p, x < p.length
  nd : p.Nodup
instance (p : List Nat) : Decidable (IsP p) := decidable_of_iff ((∀ x ∈ p, x < p.length) ∧ p.Nodup) ⟨fun h => ⟨h.1, h.2⟩, fun h => ⟨h.lt, h.nd⟩⟩
theorem nodup_le (n : Nat) : ∀ l : List Nat, l.Nodup → (∀ x ∈ l, x < n) → l.length ≤ n := by
  induction n with
  | zero =>
    intro l _ h
    cases l with
    | nil => simp
    | cons a l => exact absurd (h a (by simp)) (by omega)
  | succ n ih =>
    intro l hn h
    have h1 := ih (l.erase n) (hn.erase n) (fun x hx => by
      have h2 := (List.Nodup.mem_erase_iff hn).mp hx
      have h3 := h x h2.2
      have h4 := h2.1
      omega)
    have h5 := @List.length_erase _ _ _ n l
    split at h5 <;> omega
theorem mem_all {p : List Nat} (hp : IsP p) {x : Nat} (h : x < p.length) : x ∈ p := by
  apply Classical.byContradiction
  intro hx
  have := nodup_le p.length (x :: p) (List.nodup_cons.mpr ⟨hx, hp.nd⟩) (fun y hy => by
    rcases List.mem_cons.mp hy with rfl | hy
    · exact h
    · exact hp.lt y hy)
  simp at this
  omega
theorem g_lt {p : List Nat} (hp : IsP p) {i : Nat} (h : i < p.length) : g p i < p.length := hp.lt _ (g_mem h)
theorem g_inj {p : List Nat} (hp : IsP p) {i j : Nat} (hi : i < p.length) (hj : j < p.length) (h : g p i = g p j) : i = j := by
  rw [g_get hi, g_get hj] at h
  have hw := List.pairwise_iff_getElem.mp hp.nd
  rcases Nat.lt_trichotomy i j with hij | hij | hij
  · exact absurd h (hw i j hi hj hij)
  · exact hij
  · exact absurd h.symm (hw j i hj hi hij)
def ix (p : List Nat) (x : Nat) : Nat := p.idxOf x
theorem ix_lt {p : List Nat} (hp : IsP p) {x : Nat} (h : x < p.length) : ix p x < p.length := List.idxOf_lt_length_of_mem (mem_all hp h)
theorem g_ix {p : List Nat} (hp : IsP p) {x : Nat} (h : x < p.length) : g p (ix p x) = x := by
  rw [g_get (ix_lt hp h)]
  exact List.getElem_idxOf (ix_lt hp h)
theorem isP_mk {p : List Nat} (h1 : ∀ i, i < p.length → g p i < p.length) (h2 : ∀ i j, i < p.length → j < p.length → g p i = g p j → i = j) : IsP p := by
  refine ⟨fun x hx => ?_, ?_⟩
  · obtain ⟨i, hi, rfl⟩ := mem_g hx
    exact h1 i hi
  · refine List.pairwise_iff_getElem.mpr ?_
    intro i j hi hj hij e'
    rw [← g_get hi, ← g_get hj] at e'
    have := h2 i j hi hj e'
    omega
theorem isP_tab {n : Nat} {f : Nat → Nat} (h1 : ∀ i, i < n → f i < n) (h2 : ∀ i j, i < n → j < n → f i = f j → i = j) : IsP (tab n f) := by
  refine isP_mk (fun i hi => ?_) (fun i j hi hj e => ?_)
  · rw [tab_len] at hi ⊢; rw [g_tab hi]; exact h1 i hi
  · rw [tab_len] at hi hj; rw [g_tab hi, g_tab hj] at e; exact h2 i j hi hj e
def inv (p : List Nat) : List Nat := tab p.length (ix p)
theorem inv_len (p : List Nat) : (inv p).length = p.length := tab_len _ _
theorem g_inv {p : List Nat} {i : Nat} (h : i < p.length) : g (inv p) i = ix p i := g_tab h
theorem isP_inv {p : List Nat} (hp : IsP p) : IsP (inv p) := isP_tab (fun i hi => ix_lt hp hi) (fun i j hi hj e => by rw [← g_ix hp hi, ← g_ix hp hj, e])
def thn (p q : List Nat) : List Nat := tab p.length (fun i => g q (g p i))
theorem thn_len (p q : List Nat) : (thn p q).length = p.length := tab_len _ _
theorem g_thn {p q : List Nat} {i : Nat} (h : i < p.length) : g (thn p q) i = g q (g p i) := g_tab h
theorem isP_thn {p q : List Nat} (hp : IsP p) (hq : IsP q) (hl : p.length = q.length) : IsP (thn p q) :=
  isP_tab (fun i hi => by have h1 := g_lt hp hi; have h2 := g_lt hq (i := g p i) (by omega); omega)
    (fun i j hi hj e => g_inj hp hi hj (g_inj hq (by have := g_lt hp hi; omega) (by have := g_lt hp hj; omega) e))
end Go.Proofs.Ytlbcafniodfdgaa.M
end
section
/- Plain mathematics: permutations of whole numbers, and what is reached by two of them. No conditions. -/
namespace Go.Proofs.Ytlbcafniodfdgaa.M
set_option linter.unusedVariables false
set_option linter.unusedSimpArgs false
open Go.RowKit Go.Proofs.YtlbcafniodfdgaaW.PrintWords Go.Proofs.YtlbcafniodfdgaaW.PrintLast Go.Proofs.YtlbcafniodfdgaaW.PrintMore
theorem w64 {x : Int} (h0 : -9223372036854775808 ≤ x) (h1 : x ≤ 9223372036854775807) : wrap64 x = x := by unfold wrap64; omega
theorem w64s (i : Nat) (h : i ≤ 9000000000000000000) : wrap64 ((i : Int) + 1) = ((i + 1 : Nat) : Int) := by rw [w64 (by omega) (by omega)]; omega
theorem ev_succ {α : Type} {f : Nat → Option α} {r : α} (h : Ev (fun k => f (k + 1)) r) : Ev f r := Ev.step (fun _ => rfl) h
theorem rdI (p : List Nat) (i : Nat) : rd (I p) (i : Int) = ((g p i : Nat) : Int) := by
  unfold rd g I
  simp only [Int.toNat_natCast, List.getD_eq_getElem?_getD, List.getElem?_map]
  cases p[i]? <;> rfl
theorem rd_get (l : List Int) (i : Nat) (h : i < l.length) : rd l (i : Int) = l[i] := by
  unfold rd
  simp [List.getD_eq_getElem?_getD, h]
theorem mem_I {p : List Nat} {x : Nat} : (x : Int) ∈ I p ↔ x ∈ p := by
  unfold I
  constructor
  · intro h
    obtain ⟨y, hy, e⟩ := List.mem_map.mp h
    have : y = x := Int.ofNat.inj e
    exact this ▸ hy
  · intro h
    exact List.mem_map.mpr ⟨x, h, rfl⟩
def PI (l : List Int) : Prop := l.length ≤ 24 ∧ (∀ x ∈ l, 0 ≤ x ∧ x < (l.length : Int)) ∧ l.Nodup
instance : DecidablePred PI := fun l => by unfold PI; infer_instance
def permB (l : List Int) : Bool := decide (PI l)
def N (l : List Int) : List Nat := l.map Int.toNat
theorem N_I (p : List Nat) : N (I p) = p := by
  unfold N I
  rw [List.map_map]
  exact List.map_id'' (fun x => rfl) p
theorem N_len (l : List Int) : (N l).length = l.length := by simp [N]
theorem I_N {l : List Int} (h : ∀ x ∈ l, 0 ≤ x) : I (N l) = l := by
  unfold N I
  rw [List.map_map]
  conv => rhs; rw [← List.map_id l]
  apply List.map_congr_left
  intro x hx
  have := h x hx
  simp only [Function.comp, id]
  show ((x.toNat : Nat) : Int) = x
  omega
theorem PI_nat {l : List Int} (h : PI l) : ∃ p, l = I p ∧ IsP p ∧ p.length ≤ 24 := by
  obtain ⟨h1, h2, h3⟩ := h
  refine ⟨N l, (I_N (fun x hx => (h2 x hx).1)).symm, ?_, by rw [N_len]; exact h1⟩
  have e := I_N (fun x hx => (h2 x hx).1)
  refine ⟨fun x hx => ?_, ?_⟩
  · have := (h2 (x : Int) (by rw [← e]; exact mem_I.mpr hx)).2
    rw [N_len]
    omega
  · rw [← e] at h3
    unfold I at h3
    exact (List.pairwise_map.mp h3).imp (fun {a b} hab hh => hab (by rw [hh]))
theorem PI_I {p : List Nat} : PI (I p) ↔ IsP p ∧ p.length ≤ 24 := by
  constructor
  · intro h
    obtain ⟨q, e, h1, h2⟩ := PI_nat h
    have := I_inj e
    subst this
    exact ⟨h1, h2⟩
  · intro ⟨h1, h2⟩
    refine ⟨by rw [I_len]; exact h2, fun x hx => ?_, ?_⟩
    · unfold I at hx
      obtain ⟨y, hy, rfl⟩ := List.mem_map.mp hx
      have := h1.lt y hy
      rw [I_len]
      exact ⟨Int.natCast_nonneg y, Int.ofNat_lt.mpr this⟩
    · unfold I
      exact List.pairwise_map.mpr (h1.nd.imp (fun {a b} hab hh => hab (Int.ofNat.inj hh)))
theorem permB_I {p : List Nat} : permB (I p) = true ↔ IsP p ∧ p.length ≤ 24 := by
  unfold permB
  rw [decide_eq_true_iff]
  exact PI_I
def okFrom (l : List Int) (i : Nat) : Prop := ∀ j : Nat, i ≤ j → j < l.length → 0 ≤ rd l (j : Int) ∧ rd l (j : Int) < (l.length : Int) ∧ rd l (j : Int) ∉ l.take j
theorem okFrom_end (l : List Int) (i : Nat) (h : l.length ≤ i) : okFrom l i := fun j h1 h2 => by omega
theorem okFrom_step {l : List Int} {i : Nat} (h : 0 ≤ rd l (i : Int) ∧ rd l (i : Int) < (l.length : Int) ∧ rd l (i : Int) ∉ l.take i) : okFrom l i ↔ okFrom l (i + 1) := by
  constructor
  · intro k j h1 h2
    exact k j (by omega) h2
  · intro k j h1 h2
    by_cases e : j = i
    · subst e
      exact h
    · exact k j (by omega) h2
theorem okFrom_not {l : List Int} {i : Nat} (hi : i < l.length) (h : ¬ (0 ≤ rd l (i : Int) ∧ rd l (i : Int) < (l.length : Int) ∧ rd l (i : Int) ∉ l.take i)) : ¬ okFrom l i := fun k => h (k i (Nat.le_refl _) hi)
theorem okFrom_PI {l : List Int} (h : l.length ≤ 24) : okFrom l 0 ↔ PI l := by
  constructor
  · intro k
    refine ⟨h, fun x hx => ?_, ?_⟩
    · obtain ⟨i, hi, rfl⟩ := List.mem_iff_getElem.mp hx
      have := k i (Nat.zero_le _) hi
      rw [rd_get l i hi] at this
      exact ⟨this.1, this.2.1⟩
    · refine List.pairwise_iff_getElem.mpr ?_
      intro i j hi hj hij e
      have := (k j (Nat.zero_le _) hj).2.2
      rw [rd_get l j hj, ← e] at this
      exact this (List.mem_take_iff_getElem.mpr ⟨i, by omega, rfl⟩)
  · intro ⟨_, h2, h3⟩ j _ hj
    rw [rd_get l j hj]
    refine ⟨(h2 _ (List.getElem_mem hj)).1, (h2 _ (List.getElem_mem hj)).2, fun hm => ?_⟩
    obtain ⟨i, hi, e⟩ := List.mem_take_iff_getElem.mp hm
    exact List.pairwise_iff_getElem.mp h3 i j (by omega) hj (by omega) e
theorem permB_of {l : List Int} {b : Bool} (h : l.length ≤ 24) (hb : b = true ↔ okFrom l 0) : b = permB l := by
  rw [Bool.eq_iff_iff, hb, okFrom_PI h]
  unfold permB
  rw [decide_eq_true_iff]
theorem take_succ (l : List Int) (i : Nat) (h : i < l.length) : l.take (i + 1) = l.take i ++ [rd l (i : Int)] := by
  rw [rd_get l i h, List.take_append_getElem h]
def st1 (out : List Nat) (x : Nat) : List Nat := if x ∈ out then out else out ++ [x]
def bfs (p q : List Nat) : Nat → Nat → List Nat → List Nat
  | 0, _, out => out
  | f + 1, a, out => if a < out.length then bfs p q f (a + 1) (st1 (st1 out (g p (g out a))) (g q (g out a))) else out
def reach (p q : List Nat) (s : Nat) : List Nat := bfs p q (p.length + 1) 0 [s]
structure RInv (n : Nat) (out : List Nat) : Prop where
  nd : out.Nodup
  lt : ∀ x ∈ out, x < n
theorem RInv.le {n : Nat} {out : List Nat} (h : RInv n out) : out.length ≤ n := nodup_le n out h.nd h.lt
theorem RInv.st {n : Nat} {out : List Nat} {x : Nat} (h : RInv n out) (hx : x < n) : RInv n (st1 out x) := by
  unfold st1
  split
  · exact h
  · rename_i hn
    refine ⟨List.nodup_append.mpr ⟨h.nd, by simp, fun a ha b hb e => ?_⟩, fun y hy => ?_⟩
    · have : b = x := by simpa using hb
      subst this
      exact hn (e ▸ ha)
    · rcases List.mem_append.mp hy with hy | hy
      · exact h.lt y hy
      · have : y = x := by simpa using hy
        omega
theorem st1_len (out : List Nat) (x : Nat) : out.length ≤ (st1 out x).length := by
  unfold st1
  split <;> simp
theorem RInv.g {n : Nat} {out : List Nat} {a : Nat} (h : RInv n out) (ha : a < out.length) : M.g out a < n := h.lt _ (g_mem ha)
structure Sf (r u : List Nat) : Prop where
  pr : IsP r
  pu : IsP u
  le : r.length ≤ 24
  eq : u.length = r.length
  pos : 0 < r.length
  all : (reach r u 0).length = r.length
def surfB (r u : List Int) : Bool := permB r && permB u && decide (r.length = u.length) && decide (0 < r.length) && ((reach (N r) (N u) 0).length == r.length)
theorem surf_nat {r u : List Int} (h : surfB r u = true) : ∃ r' u', r = I r' ∧ u = I u' ∧ Sf r' u' := by
  unfold surfB at h
  simp only [Bool.and_eq_true, decide_eq_true_eq, beq_iff_eq] at h
  obtain ⟨⟨⟨⟨h1, h2⟩, h3⟩, h4⟩, h5⟩ := h
  obtain ⟨r', rfl, a1, a2⟩ := PI_nat (of_decide_eq_true h1)
  obtain ⟨u', rfl, b1, b2⟩ := PI_nat (of_decide_eq_true h2)
  rw [N_I, N_I, I_len] at h5
  rw [I_len, I_len] at h3
  rw [I_len] at h4
  exact ⟨r', u', rfl, rfl, a1, b1, a2, h3.symm, h4, h5⟩
theorem surfB_I {r u : List Nat} : surfB (I r) (I u) = true ↔ Sf r u := by
  constructor
  · intro h
    obtain ⟨r', u', e1, e2, hs⟩ := surf_nat h
    have := I_inj e1
    have := I_inj e2
    subst_vars
    exact hs
  · intro h
    unfold surfB
    simp only [Bool.and_eq_true, decide_eq_true_eq, beq_iff_eq]
    rw [N_I, N_I, I_len, I_len]
    exact ⟨⟨⟨⟨permB_I.mpr ⟨h.pr, h.le⟩, permB_I.mpr ⟨h.pu, by have := h.le; have := h.eq; omega⟩⟩, h.eq.symm⟩, h.pos⟩, h.all⟩
end Go.Proofs.Ytlbcafniodfdgaa.M
end
section
/- The tests of permutations, program and reference, come to one plain test. No conditions. -/
namespace Go.Proofs.Ytlbcafniodfdgaa.M
set_option linter.unusedVariables false
set_option linter.unusedSimpArgs false
open Go.RowKit Go.Proofs.YtlbcafniodfdgaaW.PrintWords Go.Proofs.YtlbcafniodfdgaaW.PrintLast Go.Proofs.YtlbcafniodfdgaaW.PrintMore Go.Proofs.Ytlbcafniodfdgaa.A
theorem has_ev (l : List Int) (a : Int) (hl : l.length ≤ 1000000000) : Ev (fun k => spec_l02Has.f k l a) (decide (a ∈ l)) := by
  have H : ∀ d i : Nat, i + d = l.length → Ev (fun k => spec_l02Has.l0 k a l (l.length : Int) (i : Int)) (decide (a ∈ l.drop i)) := by
    intro d
    induction d with
    | zero =>
      intro i h
      refine ev_succ ?_
      have h1 : ¬ ((i : Int) < (l.length : Int)) := by omega
      have e : decide (a ∈ l.drop i) = false := by
        rw [List.drop_of_length_le (by omega)]
        simp
      simp only [spec_l02Has.l0, h1, if_false]
      rw [e]
      exact Ev.now _
    | succ d ih =>
      intro i h
      refine ev_succ ?_
      have hi : i < l.length := by omega
      have h1 : (i : Int) < (l.length : Int) := by omega
      have h2 : (0 : Int) ≤ (i : Int) := by omega
      have h3 := w64s i (by omega)
      have e := List.drop_eq_getElem_cons hi
      rw [← rd_get l i hi] at e
      by_cases hr : rd l (i : Int) = a
      · have e2 : decide (a ∈ l.drop i) = true := by rw [e, hr]; simp
        simp only [spec_l02Has.l0, h1, h2, hr, if_true]
        rw [e2]
        exact Ev.now _
      · have e2 : decide (a ∈ l.drop i) = decide (a ∈ l.drop (i + 1)) := by
          rw [e]
          have : ¬ a = rd l (i : Int) := fun h => hr h.symm
          simp [this]
        simp only [spec_l02Has.l0, h1, h2, h3, hr, if_true, if_false]
        rw [e2]
        exact ih (i + 1) (by omega)
  have := H l.length 0 (by omega)
  simpa [spec_l02Has.f] using this
theorem in_f (x : Int) (n : Nat) (hn : n ≤ 24) : spec_l01In.f x 0 (wrap64 ((n : Int) - 1)) = some (decide (0 ≤ x ∧ x < (n : Int))) := by
  unfold spec_l01In.f
  rw [w64 (by omega) (by omega)]
  by_cases h : x ≥ 0
  · rw [if_pos h]
    congr 1
    rw [Bool.eq_iff_iff, decide_eq_true_iff, decide_eq_true_iff]
    omega
  · rw [if_neg h]
    congr 1
    symm
    rw [decide_eq_false_iff_not]
    omega
theorem spec_permOk (l : List Int) : Ev (fun k => spec_PermOk.f k l) (permB l) := by
  unfold spec_PermOk.f
  by_cases h24 : (l.length : Int) > 24
  · simp only [h24, if_true]
    have : permB l = false := by
      unfold permB
      rw [decide_eq_false_iff_not]
      intro h
      have := h.1
      omega
    rw [this]
    exact Ev.now _
  · simp only [h24, if_false]
    have H : ∀ d i : Nat, i + d = l.length → ∃ b, Ev (fun k => spec_PermOk.l0 k l l (l.length : Int) (i : Int)) b ∧ (b = true ↔ okFrom l i) := by
      intro d
      induction d with
      | zero =>
        intro i h
        refine ⟨true, ev_succ ?_, by simp [okFrom_end l i (by omega)]⟩
        have h1 : ¬ ((i : Int) < (l.length : Int)) := by omega
        simp only [spec_PermOk.l0, h1, if_false]
        exact Ev.now _
      | succ d ih =>
        intro i h
        have hi : i < l.length := by omega
        have h1 : (i : Int) < (l.length : Int) := by omega
        have h1' : (i : Int) ≤ (l.length : Int) := by omega
        have h2 : (0 : Int) ≤ (i : Int) := by omega
        have h3 := w64s i (by omega)
        have hin := in_f (rd l (i : Int)) l.length (by omega)
        by_cases c1 : 0 ≤ rd l (i : Int) ∧ rd l (i : Int) < (l.length : Int)
        · have hh := has_ev (l.take i) (rd l (i : Int)) (by rw [List.length_take]; omega)
          by_cases c2 : rd l (i : Int) ∈ l.take i
          · refine ⟨false, ev_succ ?_, by simpa using okFrom_not hi (fun h => h.2.2 c2)⟩
            simp only [spec_PermOk.l0, h1, h1', h2, hin, c1, if_true, Option.bind_some, decide_true, Int.toNat_natCast, and_self]
            refine Ev.bind hh ?_
            simp only [c2, decide_true, if_true]
            exact Ev.now _
          · obtain ⟨b, i1, i2⟩ := ih (i + 1) (by omega)
            refine ⟨b, ev_succ ?_, by rw [i2]; exact (okFrom_step ⟨c1.1, c1.2, c2⟩).symm⟩
            simp only [spec_PermOk.l0, h1, h1', h2, h3, hin, c1, if_true, Option.bind_some, decide_true, Int.toNat_natCast, and_self]
            refine Ev.bind hh ?_
            simp only [c2, decide_false, Bool.false_eq_true, if_false]
            exact i1
        · refine ⟨false, ev_succ ?_, by simpa using okFrom_not hi (fun h => c1 ⟨h.1, h.2.1⟩)⟩
          simp only [spec_PermOk.l0, h1, h2, hin, c1, if_true, if_false, Option.bind_some, decide_false, Bool.false_eq_true]
          exact Ev.now _
    obtain ⟨b, i1, i2⟩ := H l.length 0 (by omega)
    rw [← permB_of (by omega) i2]
    exact i1
theorem rdOf_nat (s : List Bool) (x : Nat) : rdOf false s (x : Int) = s.getD x false := rfl
theorem getD_set (s : List Bool) (x y : Nat) (h : x < s.length) : (s.set x true).getD y false = if x = y then true else s.getD y false := by
  rw [List.getD_eq_getElem?_getD, List.getD_eq_getElem?_getD, List.getElem?_set]
  by_cases e : x = y
  · subst e
    simp [h]
  · simp [e]
theorem impl_permOk (l : List Int) : Ev (fun k => impl_PermOk.f k l) (permB l) := by
  unfold impl_PermOk.f
  by_cases h24 : (l.length : Int) > 24
  · simp only [h24, if_true]
    have : permB l = false := by
      unfold permB
      rw [decide_eq_false_iff_not]
      intro h
      have := h.1
      omega
    rw [this]
    exact Ev.now _
  · simp only [h24, if_false]
    have H : ∀ (d i : Nat) (s : List Bool), i + d = l.length → s.length = 24 → (∀ x : Nat, x < 24 → (s.getD x false = true ↔ (x : Int) ∈ l.take i)) → ∃ b, Ev (fun k => impl_PermOk.l0 k l s (i : Int)) b ∧ (b = true ↔ okFrom l i) := by
      intro d
      induction d with
      | zero =>
        intro i s h hs hx
        refine ⟨true, ev_succ ?_, by simp [okFrom_end l i (by omega)]⟩
        have h1 : ¬ ((i : Int) < (l.length : Int)) := by omega
        simp only [impl_PermOk.l0, h1, if_false]
        exact Ev.now _
      | succ d ih =>
        intro i s h hs hx
        have hi : i < l.length := by omega
        have h1 : (i : Int) < (l.length : Int) := by omega
        have h2 : (0 : Int) ≤ (i : Int) := by omega
        have h3 := w64s i (by omega)
        by_cases c1 : rd l (i : Int) < 0
        · refine ⟨false, ev_succ ?_, by simpa using okFrom_not hi (fun h => by omega)⟩
          simp only [impl_PermOk.l0, h1, h2, c1, if_true]
          exact Ev.now _
        · by_cases c2 : rd l (i : Int) ≥ (l.length : Int)
          · refine ⟨false, ev_succ ?_, by simpa using okFrom_not hi (fun h => by omega)⟩
            simp only [impl_PermOk.l0, h1, h2, c1, c2, if_true, if_false]
            exact Ev.now _
          · obtain ⟨x, ex⟩ : ∃ x : Nat, rd l (i : Int) = (x : Int) := ⟨(rd l (i : Int)).toNat, by omega⟩
            have hx24 : x < 24 := by omega
            by_cases c3 : s.getD x false = true
            · have hm := (hx x hx24).mp c3
              refine ⟨false, ev_succ ?_, by simpa using okFrom_not hi (fun h => h.2.2 (by rw [ex]; exact hm))⟩
              rw [ex] at c1 c2
              simp only [impl_PermOk.l0, h1, h2, ex, c1, c2, rdOf_nat, c3, if_true, if_false]
              exact Ev.now _
            · have hm : (x : Int) ∉ l.take i := fun h => c3 ((hx x hx24).mpr h)
              obtain ⟨b, i1, i2⟩ := ih (i + 1) (s.set x true) (by omega) (by rw [List.length_set]; exact hs) (fun y hy => by
                rw [getD_set s x y (by omega), take_succ l i hi, ex]
                by_cases e : x = y
                · subst e
                  simp
                · rw [if_neg e, hx y hy]
                  have : ¬ (y : Int) = (x : Int) := by omega
                  simp [this])
              refine ⟨b, ev_succ ?_, by rw [i2]; exact (okFrom_step ⟨by omega, by omega, by rw [ex]; exact hm⟩).symm⟩
              rw [ex] at c1 c2
              simp only [impl_PermOk.l0, h1, h2, h3, ex, c1, c2, rdOf_nat, c3, if_true, if_false, Int.toNat_natCast]
              exact i1
    obtain ⟨b, i1, i2⟩ := H l.length 0 (List.replicate 24 false) (by omega) rfl (fun x hx => by
      have : (List.replicate 24 false).getD x false = false := by
        rw [List.getD_eq_getElem?_getD, List.getElem?_replicate]
        simp [hx]
      rw [this]
      simp)
    rw [← permB_of (by omega) i2]
    exact i1
end Go.Proofs.Ytlbcafniodfdgaa.M
end
