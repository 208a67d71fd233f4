/- Lemmas for the row FnExactSurfacesIn: the program's functions told as plain functions, and plain mathematics. No conditions. -/
import Derived.Test.YtoijcallajegfaaGreatQFnExactSurfacesIn4
section
namespace Go.Proofs.YtoijcallajegfaaGreat.A
open Go.RowKit Go.Proofs.YtoijcallajegfaaGreatW.PrintWords Go.Proofs.YtoijcallajegfaaGreatW.PrintLast Go.Proofs.YtoijcallajegfaaGreatW.PrintMore
attribute [local go_sem] max2_int min2_int max_two min_two max_three min_three max_four min_four
set_option linter.unusedVariables false
set_option linter.unusedSimpArgs false
def Z22.l0 : Nat → List (S38) → List (S38) → Int → Option (Bool)
 | 0, _, _, _ => none
 | k + 1, x0, x1, x5 => if x5 < (x0.length : Int) then (if 0 ≤ x5 then (if x5 < (x1.length : Int) then ((Z31.f k ((rd_T38 x0 x5).f0) ((rd_T38 x0 x5).f1) ((rd_T38 x1 x5).f0) ((rd_T38 x1 x5).f1)).bind fun t759 => (if t759 = true then (Z22.l0 k x0 x1 (wrap64 (x5 + 1))) else (some false))) else (none)) else (none)) else (some true)
def Z22.f (k : Nat) (l0 : List (S38)) (l1 : List (S38)) : Option (Bool) := if (l0.length : Int) = (l1.length : Int) then (Z22.l0 k l0 l1 0) else (some false)
theorem Z22.mono_l : ∀ k, (∀ y0 y1 y2, LeO (Z22.l0 k y0 y1 y2) (Z22.l0 (k + 1) y0 y1 y2))
 | 0 => fun _ _ _ r h => by simp [Z22.l0] at h
 | k + 1 => by
  have ih0 := Z22.mono_l k
  ·intro y0 y1 y2
   unfold Z22.l0
   repeat' first|exact ih0 _ _ _|exact Z31.mono _ _ _ _ _|exact lo_|refine LeO.ite ?_ ?_|refine LeO.bind ?_ (fun _ => ?_)
theorem Z22.mono : ∀ a0 a1 k, LeO (Z22.f k a0 a1) (Z22.f (k + 1) a0 a1) := by
 intro a0 a1 k
 have ih0 := Z22.mono_l k
 unfold Z22.f
 repeat' first|exact ih0 _ _ _|exact Z31.mono _ _ _ _ _|exact lo_|refine LeO.ite ?_ ?_|refine LeO.bind ?_ (fun _ => ?_)
def Z22.T6 : Bool × List (List Nat × List Nat) := (true, [([], []), ([], []), ([0, 1], [0, 1]), ([2], [2]), ([], []), ([], []), ([4, 5], [4, 5]), ([6], [6]), ([3, 7], [3, 7]), ([8], [8])])
def Z22.B6 : List Nat := [0, 0, 3, 7, 0, 0, 48, 112, 255, 511]
theorem Z22.tab6 : rtab .any (opsOf Tryz.f13 6) = Z22.T6 := by kernel_rfl
theorem Z22.bits6 : waitsOk Z22.T6.2 Z22.B6 = true := by kernel_rfl
set_option maxHeartbeats 8000000 in
set_option maxRecDepth 100000 in
theorem Z22.calls (k : Nat) (A0 : Option Addr) (c0 : Nat) (l0 : List (S38)) (A1 : Option Addr) (c1 : Nat) (l1 : List (S38)) (r : Bool) (w : World) (hr0 : Kd.C k38 w A0 l0.length l0) (hc0 : l0.length ≤ c0) (hr1 : Kd.C k38 w A1 l1.length l1) (hc1 : l1.length ≤ c1) (h : Z22.f k l0 l1 = some r) :
  Calls Tryz.prog 13 #[.slice A0 l0.length c0, .slice A1 l1.length c1] w fun e w' => e = .returned (.bool r) ∧ Below w.heap.size w w' := by
 have hu38 := Tryz.underlying38
 have HR0 := A_ hr0
 have HC0 := A_ hc0
 clear hr0 hc0
 have HR1 := A_ hr1
 have HC1 := A_ hc1
 clear hr1 hc1
 have HB := A_ (Below.refl w.heap.size w)
 have H := h
 unfold Z22.f at H
 clear h
 by_cases c3 : (l0.length : Int) = (l1.length : Int)
 ·rw [if_pos c3] at H
  have c3b0 : ((l0.length : Int) == (l1.length : Int)) = true := beq_iff_eq.mpr c3
  have c3b1 : ((l0.length : Int) != (l1.length : Int)) = false := bne_eq_false_iff_eq.mpr c3
  have c3b2 : (l0.length == l1.length) = true := by first | simpa using c3 | (simp at c3 ⊢; omega)
  clear c3
  have H' := A_ H
  clear H
  go_enter Tryz.func13, Tryz.ntmps13
  go_wp2
  go_loopg [5] k (fun kq v5 w' => ∃ (x5_1 : Int), v5 = .int .i64 x5_1 ∧ Aside0 (Z22.l0 kq l0 l1 x5_1 = some r) ∧ Aside0 (kq ≤ k) ∧ Aside0 (Below w.heap.size w w'))
  case atStart => exact ⟨(0), qc_, H', ⟨nA_ _⟩, ⟨hB_⟩⟩
  case round =>
   clear H'
   obtain ⟨x5_1, rfl, HA, HK1, HB⟩ := hrel
   cases gk with
   | zero => exact absurd HA.out (by simp [Z22.l0])
   | succ k1 =>
    have H := HA.out
    clear HA
    simp only [Z22.l0] at H
    by_cases c4 : x5_1 < (l0.length : Int)
    ·rw [if_pos c4] at H
     have c4b0 := oC_ c4
     clear c4
     have c5 := cp_ H
     replace H := ca_ H
     have c5b0 := oC_ c5
     clear c5
     have c6 := cp_ H
     replace H := ca_ H
     have c6b0 := oC_ c6
     clear c6
     obtain ⟨t759, A7, H⟩ := bi_ H
     by_cases c8 : t759 = true
     ·subst c8
      rw [if_pos rfl] at H
      have H' := A_ H
      clear H
      try go_wp2
      replace HB := A_ (bC_ HB.out)
      have p757 : 0 ≤ (x5_1 : Int) := oB_ qe_
      have q757 : x5_1 < (l0.length : Int) := oB_ qe_
      obtain ⟨ad757, A757_0, c757_0, A757_1, c757_1, e757, hx757_0, hx757_1, hl757_0, hi757_0, hl757_1, hi757_1⟩ := at_T38 HR0.out x5_1 p757 q757
      have hw757_1 := hx757_1
      have hw757_0 := hx757_0
      cases e757
      replace hx757_0 := (HB.out.cell (World.block_lt_of_cell? w _ hx757_0)).trans hx757_0
      replace hx757_1 := (HB.out.cell (World.block_lt_of_cell? w _ hx757_1)).trans hx757_1
      have HR757_0 := A_ hi757_0
      have HC757_0 := A_ hl757_0
      clear hi757_0 hl757_0
      have HR757_1 := A_ hi757_1
      have HC757_1 := A_ hl757_1
      clear hi757_1 hl757_1
      replace p757 := eq_true p757
      replace q757 := eq_true q757
      have p758 : 0 ≤ (x5_1 : Int) := oB_ qe_
      have q758 : x5_1 < (l1.length : Int) := oB_ qe_
      obtain ⟨ad758, A758_0, c758_0, A758_1, c758_1, e758, hx758_0, hx758_1, hl758_0, hi758_0, hl758_1, hi758_1⟩ := at_T38 HR1.out x5_1 p758 q758
      have hw758_1 := hx758_1
      have hw758_0 := hx758_0
      cases e758
      replace hx758_0 := (HB.out.cell (World.block_lt_of_cell? w _ hx758_0)).trans hx758_0
      replace hx758_1 := (HB.out.cell (World.block_lt_of_cell? w _ hx758_1)).trans hx758_1
      have HR758_0 := A_ hi758_0
      have HC758_0 := A_ hl758_0
      clear hi758_0 hl758_0
      have HR758_1 := A_ hi758_1
      have HC758_1 := A_ hl758_1
      clear hi758_1 hl758_1
      replace p758 := eq_true p758
      replace q758 := eq_true q758
      refine start_ (n := 10) (S := fun w' => w'.cell? (ad757.add ((x5_1).toNat * 2)) = some (.slice A757_0 ((rd_T38 l0 x5_1).f0).length c757_0) ∧ w'.cell? ⟨(ad757.add ((x5_1).toNat * 2)).block, (ad757.add ((x5_1).toNat * 2)).off + 1, none⟩ = some (.slice A757_1 ((rd_T38 l0 x5_1).f1).length c757_1) ∧ w'.cell? (ad758.add ((x5_1).toNat * 2)) = some (.slice A758_0 ((rd_T38 l1 x5_1).f0).length c758_0) ∧ w'.cell? ⟨(ad758.add ((x5_1).toNat * 2)).block, (ad758.add ((x5_1).toNat * 2)).off + 1, none⟩ = some (.slice A758_1 ((rd_T38 l1 x5_1).f1).length c758_1)) (ds := []) (bl_ 10 0) (by kernel_rfl) rfl (by kernel_rfl) ⟨((HB.out.cell (World.block_lt_of_cell? w _ hw757_0)).trans hw757_0), ((HB.out.cell (World.block_lt_of_cell? w _ hw757_1)).trans hw757_1), ((HB.out.cell (World.block_lt_of_cell? w _ hw758_0)).trans hw758_0), ((HB.out.cell (World.block_lt_of_cell? w _ hw758_1)).trans hw758_1)⟩ (fun hHeld => ?_); refine with_tabW Z22.tab6 Z22.bits6 (fun HT_ HW_ => ?_)
      generalize wr.drew = w9 at HB HR757_0 HR757_1 HR758_0 HR758_1 hx757_0 hx757_1 hx758_0 hx758_1 hHeld ⊢
      refine pu_ 0 (some 17) (bl_ 10 1) HT_ ?_
      refine pu_ 1 (some 18) (bl_ 10 3) HT_ ?_
      refine pu_ 2 (some 19) (bl_ 10 7) HT_ ?_
      refine pu_ 4 (some 21) (bl_ 10 23) HT_ ?_
      refine pu_ 5 (some 22) (bl_ 10 55) HT_ ?_
      refine pu_ 6 (some 23) (bl_ 10 119) HT_ ?_
      refine ta_ 3 (some 20) (bl_ 10 127) HT_ HW_ hHeld ?_
      refine ta_ 7 (some 24) (bl_ 10 255) HT_ HW_ hHeld ?_
      refine on_ 8 (some 25) (bl_ 10 511) HT_ (fun K hK => ?_)
      refine gO_ Tryz.func30 #[.agg #[.slice A757_0 ((rd_T38 l0 x5_1).f0).length c757_0, .slice A757_1 ((rd_T38 l0 x5_1).f1).length c757_1], .agg #[.slice A758_0 ((rd_T38 l1 x5_1).f0).length c758_0, .slice A758_1 ((rd_T38 l1 x5_1).f1).length c758_1]] (by rfl) rfl rfl qa_ ?_
      with_reducible refine (Z31.calls k1 _ _ ((rd_T38 l0 x5_1).f0) _ _ ((rd_T38 l0 x5_1).f1) _ _ ((rd_T38 l1 x5_1).f0) _ _ ((rd_T38 l1 x5_1).f1) true _ (cb_ HR757_0) HC757_0.out (cb_ HR757_1) HC757_1.out (cb_ HR758_0) HC758_0.out (cb_ HR758_1) HC758_1.out A7.out).mono ?_
      rintro e w10 ⟨rfl, hb⟩
      refine ⟨_, rfl, ?_⟩
      replace HB := b1_ hb
      clear hb
      refine hK.out _ _ ⟨((HB.out.cell (World.block_lt_of_cell? w _ hw757_0)).trans hw757_0), ((HB.out.cell (World.block_lt_of_cell? w _ hw757_1)).trans hw757_1), ((HB.out.cell (World.block_lt_of_cell? w _ hw758_0)).trans hw758_0), ((HB.out.cell (World.block_lt_of_cell? w _ hw758_1)).trans hw758_1)⟩ (fun hHeld => ?_)
      clear hK K
      refine no_ (some 25) ?_
      refine pu_ 9 (some 26) (bl_ 10 1023) HT_ ?_
      refine done_ (done_of HT_.out (by kernel_rfl)) ?_
      try go_wp2
      go_roundg k1
      case measure => have := HK1.out; omega
      case rel => exact ⟨(wrap64 (x5_1 + 1)), qc_, H', ⟨by have := HK1.out; omega⟩, ⟨hB_⟩⟩
     ·replace c8 := Bool.eq_false_iff.mpr c8
      subst c8
      have H1 : (some false) = some r := by rw [if_neg (show ¬ (false = true) by decide)] at H; exact H
      clear H
      have H := H1
      clear H1
      obtain rfl := Option.some.inj H
      try go_wp2
      replace HB := A_ (bC_ HB.out)
      have p757 : 0 ≤ (x5_1 : Int) := oB_ qe_
      have q757 : x5_1 < (l0.length : Int) := oB_ qe_
      obtain ⟨ad757, A757_0, c757_0, A757_1, c757_1, e757, hx757_0, hx757_1, hl757_0, hi757_0, hl757_1, hi757_1⟩ := at_T38 HR0.out x5_1 p757 q757
      have hw757_1 := hx757_1
      have hw757_0 := hx757_0
      cases e757
      replace hx757_0 := (HB.out.cell (World.block_lt_of_cell? w _ hx757_0)).trans hx757_0
      replace hx757_1 := (HB.out.cell (World.block_lt_of_cell? w _ hx757_1)).trans hx757_1
      have HR757_0 := A_ hi757_0
      have HC757_0 := A_ hl757_0
      clear hi757_0 hl757_0
      have HR757_1 := A_ hi757_1
      have HC757_1 := A_ hl757_1
      clear hi757_1 hl757_1
      replace p757 := eq_true p757
      replace q757 := eq_true q757
      have p758 : 0 ≤ (x5_1 : Int) := oB_ qe_
      have q758 : x5_1 < (l1.length : Int) := oB_ qe_
      obtain ⟨ad758, A758_0, c758_0, A758_1, c758_1, e758, hx758_0, hx758_1, hl758_0, hi758_0, hl758_1, hi758_1⟩ := at_T38 HR1.out x5_1 p758 q758
      have hw758_1 := hx758_1
      have hw758_0 := hx758_0
      cases e758
      replace hx758_0 := (HB.out.cell (World.block_lt_of_cell? w _ hx758_0)).trans hx758_0
      replace hx758_1 := (HB.out.cell (World.block_lt_of_cell? w _ hx758_1)).trans hx758_1
      have HR758_0 := A_ hi758_0
      have HC758_0 := A_ hl758_0
      clear hi758_0 hl758_0
      have HR758_1 := A_ hi758_1
      have HC758_1 := A_ hl758_1
      clear hi758_1 hl758_1
      replace p758 := eq_true p758
      replace q758 := eq_true q758
      refine start_ (n := 10) (S := fun w' => w'.cell? (ad757.add ((x5_1).toNat * 2)) = some (.slice A757_0 ((rd_T38 l0 x5_1).f0).length c757_0) ∧ w'.cell? ⟨(ad757.add ((x5_1).toNat * 2)).block, (ad757.add ((x5_1).toNat * 2)).off + 1, none⟩ = some (.slice A757_1 ((rd_T38 l0 x5_1).f1).length c757_1) ∧ w'.cell? (ad758.add ((x5_1).toNat * 2)) = some (.slice A758_0 ((rd_T38 l1 x5_1).f0).length c758_0) ∧ w'.cell? ⟨(ad758.add ((x5_1).toNat * 2)).block, (ad758.add ((x5_1).toNat * 2)).off + 1, none⟩ = some (.slice A758_1 ((rd_T38 l1 x5_1).f1).length c758_1)) (ds := []) (bl_ 10 0) (by kernel_rfl) rfl (by kernel_rfl) ⟨((HB.out.cell (World.block_lt_of_cell? w _ hw757_0)).trans hw757_0), ((HB.out.cell (World.block_lt_of_cell? w _ hw757_1)).trans hw757_1), ((HB.out.cell (World.block_lt_of_cell? w _ hw758_0)).trans hw758_0), ((HB.out.cell (World.block_lt_of_cell? w _ hw758_1)).trans hw758_1)⟩ (fun hHeld => ?_); refine with_tabW Z22.tab6 Z22.bits6 (fun HT_ HW_ => ?_)
      generalize wr.drew = w11 at HB HR757_0 HR757_1 HR758_0 HR758_1 hx757_0 hx757_1 hx758_0 hx758_1 hHeld ⊢
      refine pu_ 0 (some 17) (bl_ 10 1) HT_ ?_
      refine pu_ 1 (some 18) (bl_ 10 3) HT_ ?_
      refine pu_ 2 (some 19) (bl_ 10 7) HT_ ?_
      refine pu_ 4 (some 21) (bl_ 10 23) HT_ ?_
      refine pu_ 5 (some 22) (bl_ 10 55) HT_ ?_
      refine pu_ 6 (some 23) (bl_ 10 119) HT_ ?_
      refine ta_ 3 (some 20) (bl_ 10 127) HT_ HW_ hHeld ?_
      refine ta_ 7 (some 24) (bl_ 10 255) HT_ HW_ hHeld ?_
      refine on_ 8 (some 25) (bl_ 10 511) HT_ (fun K hK => ?_)
      refine gO_ Tryz.func30 #[.agg #[.slice A757_0 ((rd_T38 l0 x5_1).f0).length c757_0, .slice A757_1 ((rd_T38 l0 x5_1).f1).length c757_1], .agg #[.slice A758_0 ((rd_T38 l1 x5_1).f0).length c758_0, .slice A758_1 ((rd_T38 l1 x5_1).f1).length c758_1]] (by rfl) rfl rfl qa_ ?_
      with_reducible refine (Z31.calls k1 _ _ ((rd_T38 l0 x5_1).f0) _ _ ((rd_T38 l0 x5_1).f1) _ _ ((rd_T38 l1 x5_1).f0) _ _ ((rd_T38 l1 x5_1).f1) false _ (cb_ HR757_0) HC757_0.out (cb_ HR757_1) HC757_1.out (cb_ HR758_0) HC758_0.out (cb_ HR758_1) HC758_1.out A7.out).mono ?_
      rintro e w12 ⟨rfl, hb⟩
      refine ⟨_, rfl, ?_⟩
      replace HB := b1_ hb
      clear hb
      refine hK.out _ _ ⟨((HB.out.cell (World.block_lt_of_cell? w _ hw757_0)).trans hw757_0), ((HB.out.cell (World.block_lt_of_cell? w _ hw757_1)).trans hw757_1), ((HB.out.cell (World.block_lt_of_cell? w _ hw758_0)).trans hw758_0), ((HB.out.cell (World.block_lt_of_cell? w _ hw758_1)).trans hw758_1)⟩ (fun hHeld => ?_)
      clear hK K
      refine no_ (some 25) ?_
      refine pu_ 9 (some 26) (bl_ 10 1023) HT_ ?_
      refine done_ (done_of HT_.out (by kernel_rfl)) ?_
      try go_wp2
      go_ret
      exact ⟨qb_, hB_⟩
    ·rw [if_neg c4] at H
     have c4b0 := oD_ c4
     clear c4
     obtain rfl := Option.some.inj H
     go_wp2
     go_ret
     exact ⟨qb_, hB_⟩
 ·rw [if_neg c3] at H
  have c3b0 : ((l0.length : Int) == (l1.length : Int)) = false := beq_eq_false_iff_ne.mpr c3
  have c3b1 : ((l0.length : Int) != (l1.length : Int)) = true := bne_iff_ne.mpr c3
  have c3b2 : (l0.length == l1.length) = false := by first | simpa using c3 | (simp at c3 ⊢; omega)
  obtain rfl := Option.some.inj H
  go_enter Tryz.func13, Tryz.ntmps13
  go_wp2
  go_ret
  exact ⟨qb_, hB_⟩
def Z49.l0 : Nat → List Int → Int → Int → Option (Int × List Int)
 | 0, _, _, _ => none
 | k + 1, x0, x1, x5 => if x5 < (x0.length : Int) then (if 0 ≤ x5 then (Z49.l0 k (x0.set (x5 : Int).toNat x1) (wrap64 (x1 + 1)) (wrap64 (x5 + 1))) else (none)) else (some (x1, x0))
def Z49.f (k : Nat) (l0 : List Int) (a1 : Int) : Option (Int × List Int) := Z49.l0 k l0 a1 0
theorem Z49.mono_l : ∀ k, (∀ y0 y1 y2, LeO (Z49.l0 k y0 y1 y2) (Z49.l0 (k + 1) y0 y1 y2))
 | 0 => fun _ _ _ r h => by simp [Z49.l0] at h
 | k + 1 => by
  have ih0 := Z49.mono_l k
  ·intro y0 y1 y2
   unfold Z49.l0
   repeat' first|exact ih0 _ _ _|exact lo_|refine LeO.ite ?_ ?_|refine LeO.bind ?_ (fun _ => ?_)
theorem Z49.mono : ∀ a0 a1 k, LeO (Z49.f k a0 a1) (Z49.f (k + 1) a0 a1) := by
 intro a0 a1 k
 have ih0 := Z49.mono_l k
 unfold Z49.f
 repeat' first|exact ih0 _ _ _|exact lo_|refine LeO.ite ?_ ?_|refine LeO.bind ?_ (fun _ => ?_)
set_option maxHeartbeats 8000000 in
set_option maxRecDepth 100000 in
theorem Z49.calls (k : Nat) (P0_ : Nat → Prop) (u9000_ : Value) (l0 : List Int) (a1 : Int) (r1 : Int) (r2 : List Int) (w0 w : World) (hB : Below w0.heap.size w0 w) (ho0 : Kd.R (Kd.int .i64) 3 w w0.heap.size P0_ u9000_ l0) (h : Z49.f k l0 a1 = some (r1, r2)) :
  Calls Tryz.prog 15 #[u9000_, .int .i64 a1] w fun e w' => e = .returned (.int .i64 r1) ∧ Kd.R (Kd.int .i64) 3 w' w0.heap.size (fun k_ => (P0_ k_ ∨ w.heap.size ≤ k_)) u9000_ r2 ∧ Below w0.heap.size w0 w' ∧ Kept w w' (fun k_ => P0_ k_) := by
 have HO0 := A_ (show Kd.R (Kd.int .i64) 3 w w0.heap.size (fun k_ => (P0_ k_ ∨ w.heap.size ≤ k_)) u9000_ l0 from Kd.R_mono ho0 (fun k_ hk => (.inl hk)))
 have HK := A_ (Kept.refl w (fun k_ => P0_ k_))
 have HW0 := A_ hB.size
 have HB := A_ hB
 clear hB
 have H := h
 unfold Z49.f at H
 clear h
 have H' := A_ H
 clear H
 go_enter Tryz.func15, Tryz.ntmps15
 go_wp2
 go_loopg [1, 5] k (fun kq v1 v5 w' => ∃ (x0_1 : List Int) (x1_1 : Int) (x5_1 : Int), v1 = .int .i64 x1_1 ∧ v5 = .int .i64 x5_1 ∧ Aside0 (Z49.l0 kq x0_1 x1_1 x5_1 = some (r1, r2)) ∧ Aside0 (kq ≤ k) ∧ Aside0 (Kd.R (Kd.int .i64) 3 w' w0.heap.size (fun k_ => (P0_ k_ ∨ w.heap.size ≤ k_)) u9000_ x0_1) ∧ Aside0 (Kept w w' (fun k_ => P0_ k_)) ∧ Aside0 (Below w0.heap.size w0 w'))
 case atStart => exact ⟨(l0), (a1), (0), qc_, qc_, H', ⟨nA_ _⟩, ⟨(rr_ HO0)⟩, ⟨by repeat (first | (with_reducible first | exact HK.out | apply Kept.alloc | apply Kept.drewN | apply Kept.drew) | exact HK.out)⟩, ⟨hB_⟩⟩
 case round =>
  clear H'
  obtain ⟨x0_1, x1_1, x5_1, rfl, rfl, HA, HK1, HO_0, HK, HB⟩ := hrel
  cases gk with
  | zero => exact absurd HA.out (by simp [Z49.l0])
  | succ k1 =>
   have H := HA.out
   clear HA
   simp only [Z49.l0] at H
   by_cases c3 : x5_1 < (x0_1.length : Int)
   ·rw [if_pos c3] at H
    have c3b0 := oC_ c3
    clear c3
    have c4 := cp_ H
    replace H := ca_ H
    have c4b0 := oC_ c4
    clear c4
    obtain ⟨y699, hy699⟩ : ∃ y_ : List Int, y_ = (x0_1.set (x5_1 : Int).toNat x1_1) := ⟨_, rfl⟩
    replace H : (Z49.l0 k1 y699 (wrap64 (x1_1 + 1)) (wrap64 (x5_1 + 1))) = some (r1, r2) := by first | (rw [hy699]; exact H) | exact H
    have Ny699 := A_ hy699
    clear hy699
    have H' := A_ H
    clear H
    obtain ⟨Ao6, co6, eo6⟩ := Kd.R_slice HO_0.out
    subst eo6
    have p5 : 0 ≤ (x5_1 : Int) := oB_ qe_
    have q5 : (x5_1 : Int) < ((x0_1.length : Int) : Int) := oB_ qe_
    obtain ⟨go5, co5, eo5, gb5, gl5, cl5, HG5⟩ := Kd.R_form HO_0.out (by omega)
    (first | cases eo5 | (injection eo5 with ea_ en_ ec_; (first | subst ea_ | (injection ea_ with ea_; subst ea_)); subst ec_; clear en_))
    have GB5 := A_ gb5
    have GG5 := A_ HG5
    clear gb5 gl5 HG5
    have HMgo5 := A_ (show (P0_ go5 ∨ w.heap.size ≤ go5) from (HO_0.out.1 _ rfl))
    obtain ⟨hx5_0, hf5_0⟩ := Kd.R_celln 0 HO_0.out (x5_1 : Int) p5 q5
    replace p5 := eq_true p5
    replace q5 := eq_true q5
    have HP7 := Kd.R_putg HO_0.out (x5_1 : Int) x1_1
    go_wp2_with (first | ((with_reducible refine gate_store (t := 3) (p := 15) rfl ?_); refine store_event (t := 3) (p := 15) (v := ?vo_w8) (w1 := (wr.setCell ⟨go5, (x5_1 : Int).toNat, none⟩ (.int .i64 x1_1))) ?hg ?ho ?hn ?hr ?_; (case ho => rfl); (case hg => rfl); (case hn => rfl); (case hr => first | (go_simp; done) | (go_simp; rfl)); intro w8 hw; have hg : wr.grownBy w8 (some go5) := (by rw [hw]; exact HP7.2); have hp_ : Kd.R (Kd.int .i64) 3 w8 w0.heap.size (fun k_ => (P0_ k_ ∨ w.heap.size ≤ k_)) (.slice (some ⟨go5, 0, none⟩) x0_1.length co6) y699 := (by rw [hw, Ny699.out]; exact HP7.1); clear HP7; replace HB := A_ ((by rw [hw]; exact bD_ (HB.out) GB5.out : Below w0.heap.size w0 w8)); replace HK := A_ (Kept.of_grown (S := (fun k_ => P0_ k_)) hg (by repeat (first | (with_reducible first | exact HK.out | apply Kept.alloc | apply Kept.drewN | apply Kept.drew) | exact HK.out)) (fun k_ e_ => (HO_0.out.1 k_ e_))); replace HO_0 := A_ (hp_); clear hg hw hp_))
    go_roundg k1
    case measure => have := HK1.out; omega
    case rel => exact ⟨(y699), (wrap64 (x1_1 + 1)), (wrap64 (x5_1 + 1)), qc_, qc_, H', ⟨by have := HK1.out; omega⟩, ⟨(rr_ HO_0)⟩, ⟨by repeat (first | (with_reducible first | exact HK.out | apply Kept.alloc | apply Kept.drewN | apply Kept.drew) | exact HK.out)⟩, ⟨hB_⟩⟩
   ·rw [if_neg c3] at H
    have c3b0 := oD_ c3
    clear c3
    simp only [Option.some.injEq, Prod.mk.injEq] at H
    obtain ⟨rfl, rfl⟩ := H
    obtain ⟨Ao9, co9, eo9⟩ := Kd.R_slice HO_0.out
    subst eo9
    go_wp2
    go_ret
    exact ⟨qb_, (rr_ HO_0), hB_, by repeat (first | (with_reducible first | exact HK.out | apply Kept.alloc | apply Kept.drewN | apply Kept.drew) | exact HK.out)⟩
def Z13.l0 : Nat → List S38 → Int → Int → Option (Int × List S38)
 | 0, _, _, _ => none
 | k + 1, x0, x1, i => if i < (x0.length : Int) then (if 0 ≤ i then ((Z49.f k (rd_T38 x0 i).f0 x1).bind fun t => ((Z49.f k (rd_T38 x0 i).f1 t.1).bind fun s => (Z13.l0 k (x0.set i.toNat ⟨t.2, s.2⟩) s.1 (wrap64 (i + 1))))) else none) else some (x1, x0)
def Z13.f (k : Nat) (l0 : List S38) (a1 : Int) : Option (Int × List S38) := Z13.l0 k l0 a1 0
theorem Z13.mono_l : ∀ k, (∀ y0 y1 y2, LeO (Z13.l0 k y0 y1 y2) (Z13.l0 (k + 1) y0 y1 y2))
 | 0 => fun _ _ _ r h => by simp [Z13.l0] at h
 | k + 1 => by
  have ih0 := Z13.mono_l k
  ·intro y0 y1 y2
   unfold Z13.l0
   repeat' first|exact Z49.mono _ _ _|exact ih0 _ _ _|exact lo_|refine LeO.ite ?_ ?_|refine LeO.bind ?_ (fun _ => ?_)
theorem Z13.mono : ∀ a0 a1 k, LeO (Z13.f k a0 a1) (Z13.f (k + 1) a0 a1) := by
 intro a0 a1 k
 exact Z13.mono_l k _ _ _
set_option maxHeartbeats 8000000 in
set_option maxRecDepth 100000 in
theorem Z13.calls (k : Nat) (P0_ : Nat → Prop) (u9000_ : Value) (l0 : List S38) (a1 : Int) (r1 : Int) (r2 : List S38) (w0 w : World) (hB : Below w0.heap.size w0 w) (ho0 : Kd.S k38 38 w w0.heap.size P0_ u9000_ l0) (h : Z13.f k l0 a1 = some (r1, r2)) :
  Calls Tryz.prog 16 #[u9000_, .int .i64 a1] w fun e w' => e = .returned (.int .i64 r1) ∧ Kd.S k38 38 w' w0.heap.size (fun k_ => (P0_ k_ ∨ w.heap.size ≤ k_)) u9000_ r2 ∧ Below w0.heap.size w0 w' ∧ Kept w w' (fun k_ => P0_ k_) := by
 have hu := Tryz.underlying38
 have HO0 := A_ (show Kd.S k38 38 w w0.heap.size (fun k_ => (P0_ k_ ∨ w.heap.size ≤ k_)) u9000_ l0 from Kd.S_mono ho0 (fun k_ hk => (.inl hk)))
 clear ho0
 have HK := A_ (Kept.refl w (fun k_ => P0_ k_))
 have HB := A_ hB
 clear hB
 have H' := A_ (show Z13.l0 k l0 a1 0 = some (r1, r2) from h)
 clear h
 obtain ⟨Ao, co, eo⟩ := Kd.R_slice (Kd.S_R HO0.out)
 obtain ⟨n0, hn0⟩ : ∃ n0, n0 = l0.length := ⟨_, rfl⟩
 rw [← hn0] at eo
 have HN0 := A_ hn0.symm
 clear hn0
 subst eo
 go_enter Tryz.func16, Tryz.ntmps16
 go_wp2
 go_loopg [1, 5] k (fun kq v1 v5 w' => ∃ (x0_1 : List S38) (x1_1 : Int) (x5_1 : Int), v1 = .int .i64 x1_1 ∧ v5 = .int .i64 x5_1 ∧ Aside0 (Z13.l0 kq x0_1 x1_1 x5_1 = some (r1, r2)) ∧ Aside0 (kq ≤ k) ∧ Aside0 (x0_1.length = n0) ∧ Aside0 (Kd.S k38 38 w' w0.heap.size (fun k_ => (P0_ k_ ∨ w.heap.size ≤ k_)) (.slice Ao n0 co) x0_1) ∧ Aside0 (Kept w w' (fun k_ => P0_ k_)) ∧ Aside0 (Below w0.heap.size w0 w'))
 case atStart => exact ⟨l0, a1, 0, rfl, rfl, H', ⟨nA_ _⟩, HN0, ⟨(ss_ HO0)⟩, ⟨by repeat (first | (with_reducible first | exact HK.out | apply Kept.alloc | apply Kept.drewN | apply Kept.drew) | exact HK.out)⟩, ⟨hB_⟩⟩
 case round =>
  clear H' HO0 HK HB HN0
  obtain ⟨x0, x1, i, rfl, rfl, HA, HK1, HN, HO, HK, HB⟩ := hrel
  cases gk with
  | zero => exact absurd HA.out (by simp [Z13.l0])
  | succ k1 =>
   have H := HA.out
   clear HA
   simp only [Z13.l0] at H
   rw [HN.out] at H
   by_cases c3 : i < (n0 : Int)
   ·rw [if_pos c3] at H
    have c4 := cp_ H
    replace H := ca_ H
    have c3b0 := oC_ c3
    have c4b0 := oC_ c4
    obtain ⟨⟨t1, t2⟩, A3, H⟩ := Option.bind_eq_some_iff.mp H
    obtain ⟨⟨s1, s2⟩, A4, H⟩ := Option.bind_eq_some_iff.mp H
    have A3 := A_ A3
    have A4 := A_ A4
    have H' := A_ H
    clear H
    obtain ⟨g, cap, eg, hgb, hgl, cells, hcells⟩ := Kd.R_form (Kd.S_R HO.out) (by have := HN.out; omega)
    cases eg
    obtain ⟨oki, c, hcl, hM, hcc, hoki, hH⟩ := Kd.S_lend HO.out ⟨[], []⟩ i c4 c3
    obtain ⟨v0, v1, rfl, hR0, hR1, hne⟩ := k38_openN hM
    change Kd.R _ _ _ _ _ _ (rd_T38 x0 i).f0 at hR0
    change Kd.R _ _ _ _ _ _ (rd_T38 x0 i).f1 at hR1
    obtain ⟨Av, cv, rfl⟩ := Kd.R_slice hR0
    obtain ⟨Au, cu, rfl⟩ := Kd.R_slice hR1
    have hx0 := hcc 0 _ rfl
    have hx1 := hcc 1 _ rfl
    simp only [show k38.sz = 2 from rfl, Nat.add_zero] at hx0 hx1
    have HG := A_ hoki
    have HR0 := A_ hR0
    have HR1 := A_ hR1
    have HH := A_ hH
    have HNE := A_ hne
    have HX1 := A_ hx1
    clear hR0 hR1 hH hoki hcc hcl HO hne
    replace c3 := eq_true c3
    replace c4 := eq_true c4
    go_upto_region 5 with ((with_reducible refine gA_ (f := 15) rfl ?_); refine goesL_ _ rfl rfl Tryz.func15 (by kernel_rfl) rfl #[.slice Av (rd_T38 x0 i).f0.length cv, .int .i64 x1] rfl (by (try simp only [mA_, mB_, mC_]); first | done | rfl) ?_; (refine (Z49.calls k1 (fun k_ => some k_ = (.slice Av (rd_T38 x0 i).f0.length cv : Value).ownBlock) _ (rd_T38 x0 i).f0 x1 t1 t2 w0 _ ?side1 ?side2 A3.out).mono ?_); (case side1 => repeat (first | (with_reducible first | exact HB.out | apply bA_ | apply bB_ | apply bC_) | exact HB.out)); (case side2 => (with_reducible repeat (first | apply rA_ | apply rB_ | apply rC_)); exact Kd.R_tight rfl HR0.out); rintro e w9 ⟨rfl, hy0, hb, hkp⟩; refine ⟨_, rfl, ?_⟩; have hx9 := cell_kept HX1.out hkp (fun hs => (HG.out g (HR0.out.1 g hs.symm)).2 rfl); have HY0 := A_ hy0; have HB9 := A_ hb; have HK9 := A_ hkp; clear hy0 hb hkp hx0 hx1)
    go_wp2_with ((with_reducible refine gA_ (f := 15) rfl ?_); refine goesL_ _ rfl rfl Tryz.func15 (by kernel_rfl) rfl #[.slice Au (rd_T38 x0 i).f1.length cu, .int .i64 t1] rfl (by (try simp only [mA_, mB_, mC_]); first | done | rfl) ?_; (refine (Z49.calls k1 (fun k_ => some k_ = (.slice Au (rd_T38 x0 i).f1.length cu : Value).ownBlock) _ (rd_T38 x0 i).f1 t1 s1 s2 w0 _ HB9.out (Kd.R_kept (Kd.R_tight rfl HR1.out) HK9.out (fun k_ hk hs => HNE.out k_ hs.symm hk.symm)) A4.out).mono ?_); rintro e w10 ⟨rfl, hz0, hb, hkp⟩; refine ⟨_, rfl, ?_⟩; have HZ0 := A_ hz0; have HB10 := A_ hb; have HK10 := A_ hkp; clear hz0 hb hkp)
    have q0 := Kd.R_mono (Kd.R_kept (Kd.R_tight rfl HY0.out) HK10.out (fun k_ hk hs => HNE.out k_ hk.symm hs.symm)) (ok' := oki) (fun k_ hk => HR0.out.1 k_ hk.symm)
    have q1 := Kd.R_mono (Kd.R_tight rfl HZ0.out) (ok' := oki) (fun k_ hk => HR1.out.1 k_ hk.symm)
    have hS := Kd.H_back (Kd.H_kept (Kd.H_kept HH.out HK9.out (fun k_ _ hn hs => hn (HR0.out.1 k_ hs.symm))) HK10.out (fun k_ _ hn hs => hn (HR1.out.1 k_ hs.symm))) (k38_mkM w10 w0.heap.size oki (⟨t2, s2⟩ : S38) q0 q1 HNE.out) (fun k_ hk => hk)
    have HS := A_ hS
    have HK' := A_ (Kept.then_ (Kept.then_ HK.out HK9.out (fun k_ hk => (HG.out k_ (HR0.out.1 k_ hk.symm)).1)) HK10.out (fun k_ hk => (HG.out k_ (HR1.out.1 k_ hk.symm)).1))
    clear hS q0 q1
    go_roundg k1
    case measure => have := HK1.out; omega
    case rel => exact ⟨x0.set i.toNat ⟨t2, s2⟩, s1, wrap64 (i + 1), rfl, rfl, H', ⟨by have := HK1.out; omega⟩, ⟨by rw [List.length_set]⟩, HS, HK', HB10⟩
   ·rw [if_neg c3] at H
    have c3b0 := oD_ c3
    clear c3
    simp only [Option.some.injEq, Prod.mk.injEq] at H
    obtain ⟨rfl, rfl⟩ := H
    go_wp2
    go_ret
    exact ⟨rfl, (ss_ HO), hB_, by repeat (first | (with_reducible first | exact HK.out | apply Kept.alloc | apply Kept.drewN | apply Kept.drew) | exact HK.out)⟩
def Z48.l0 : Nat → List Int → Int → Int → Option (Int)
 | 0, _, _, _ => none
 | k + 1, x0, x1, x5 => if x5 < (x0.length : Int) then (if 0 ≤ x5 then (if (rd x0 x5) = x1 then (Z48.l0 k x0 (wrap64 (x1 + 1)) (wrap64 (x5 + 1))) else (some (-1))) else (none)) else (some x1)
def Z48.f (k : Nat) (l0 : List Int) (a1 : Int) : Option (Int) := Z48.l0 k l0 a1 0
theorem Z48.mono_l : ∀ k, (∀ y0 y1 y2, LeO (Z48.l0 k y0 y1 y2) (Z48.l0 (k + 1) y0 y1 y2))
 | 0 => fun _ _ _ r h => by simp [Z48.l0] at h
 | k + 1 => by
  have ih0 := Z48.mono_l k
  ·intro y0 y1 y2
   unfold Z48.l0
   repeat' first|exact ih0 _ _ _|exact lo_|refine LeO.ite ?_ ?_|refine LeO.bind ?_ (fun _ => ?_)
theorem Z48.mono : ∀ a0 a1 k, LeO (Z48.f k a0 a1) (Z48.f (k + 1) a0 a1) := by
 intro a0 a1 k
 have ih0 := Z48.mono_l k
 unfold Z48.f
 repeat' first|exact ih0 _ _ _|exact lo_|refine LeO.ite ?_ ?_|refine LeO.bind ?_ (fun _ => ?_)
set_option maxHeartbeats 8000000 in
set_option maxRecDepth 100000 in
theorem Z48.calls (k : Nat) (A0 : Option Addr) (c0 : Nat) (l0 : List Int) (a1 : Int) (r : Int) (w : World) (hr0 : Kd.C (Kd.int .i64) w A0 l0.length l0) (hc0 : l0.length ≤ c0) (h : Z48.f k l0 a1 = some r) :
  Calls Tryz.prog 29 #[.slice A0 l0.length c0, .int .i64 a1] w fun e w' => e = .returned (.int .i64 r) ∧ Drawn0 w w' := by
 have HR0 := A_ hr0
 have HC0 := A_ hc0
 clear hr0 hc0
 have H := h
 unfold Z48.f at H
 clear h
 have H' := A_ H
 clear H
 go_enter Tryz.func29, Tryz.ntmps29
 go_wp2
 go_loopg [1, 5] k (fun kq v1 v5 w' => ∃ (x1_1 : Int) (x5_1 : Int), v1 = .int .i64 x1_1 ∧ v5 = .int .i64 x5_1 ∧ Aside0 (Z48.l0 kq l0 x1_1 x5_1 = some r) ∧ Aside0 (kq ≤ k) ∧ Drawn0 w w')
 case atStart => exact ⟨(a1), (0), qc_, qc_, H', ⟨nA_ _⟩, by repeat (first | exact Drawn0.refl _ | apply Drawn0.step)⟩
 case round =>
  clear H'
  obtain ⟨x1_1, x5_1, rfl, rfl, HA, HK1, ⟨m1, rfl⟩⟩ := hrel
  cases gk with
  | zero => exact absurd HA.out (by simp [Z48.l0])
  | succ k1 =>
   have H := HA.out
   clear HA
   simp only [Z48.l0] at H
   by_cases c3 : x5_1 < (l0.length : Int)
   ·rw [if_pos c3] at H
    have c3b0 := oC_ c3
    clear c3
    have c4 := cp_ H
    replace H := ca_ H
    have c4b0 := oC_ c4
    clear c4
    by_cases c5 : (rd l0 x5_1) = x1_1
    ·rw [if_pos c5] at H
     have c5b0 : ((rd l0 x5_1) == x1_1) = true := beq_iff_eq.mpr c5
     have c5b1 : ((rd l0 x5_1) != x1_1) = false := bne_eq_false_iff_eq.mpr c5
     clear c5
     have H' := A_ H
     clear H
     have p700 : 0 ≤ (x5_1 : Int) := oB_ qe_
     have q700 : x5_1 < (l0.length : Int) := oB_ qe_
     obtain ⟨ad700, e700, hx700_0⟩ := Kd.at_int HR0.out x5_1 p700 q700
     cases e700
     replace p700 := eq_true p700
     replace q700 := eq_true q700
     go_wp2
     go_roundg k1
     case measure => have := HK1.out; omega
     case rel => exact ⟨(wrap64 (x1_1 + 1)), (wrap64 (x5_1 + 1)), qc_, qc_, H', ⟨by have := HK1.out; omega⟩, by repeat (first | exact Drawn0.refl _ | apply Drawn0.step)⟩
    ·rw [if_neg c5] at H
     have c5b0 : ((rd l0 x5_1) == x1_1) = false := beq_eq_false_iff_ne.mpr c5
     have c5b1 : ((rd l0 x5_1) != x1_1) = true := bne_iff_ne.mpr c5
     obtain rfl := Option.some.inj H
     have p700 : 0 ≤ (x5_1 : Int) := oB_ qe_
     have q700 : x5_1 < (l0.length : Int) := oB_ qe_
     obtain ⟨ad700, e700, hx700_0⟩ := Kd.at_int HR0.out x5_1 p700 q700
     cases e700
     replace p700 := eq_true p700
     replace q700 := eq_true q700
     go_wp2
     go_ret
     exact ⟨qc_, by repeat (first | exact Drawn0.refl _ | apply Drawn0.step)⟩
   ·rw [if_neg c3] at H
    have c3b0 := oD_ c3
    clear c3
    obtain rfl := Option.some.inj H
    go_wp2
    go_ret
    exact ⟨qc_, by repeat (first | exact Drawn0.refl _ | apply Drawn0.step)⟩
def Z12.l0 : Nat → List (S38) → Int → Int → Option (Int)
 | 0, _, _, _ => none
 | k + 1, x0, x1, x5 => if x5 < (x0.length : Int) then (if 0 ≤ x5 then ((Z48.f k ((rd_T38 x0 x5).f0) x1).bind fun t761 => (if t761 < 0 then (some (-1)) else ((Z48.f k ((rd_T38 x0 x5).f1) t761).bind fun t763 => (if t763 < 0 then (some (-1)) else (Z12.l0 k x0 t763 (wrap64 (x5 + 1))))))) else (none)) else (some x1)
def Z12.f (k : Nat) (l0 : List (S38)) (a1 : Int) : Option (Int) := Z12.l0 k l0 a1 0
theorem Z12.mono_l : ∀ k, (∀ y0 y1 y2, LeO (Z12.l0 k y0 y1 y2) (Z12.l0 (k + 1) y0 y1 y2))
 | 0 => fun _ _ _ r h => by simp [Z12.l0] at h
 | k + 1 => by
  have ih0 := Z12.mono_l k
  ·intro y0 y1 y2
   unfold Z12.l0
   repeat' first|exact ih0 _ _ _|exact Z48.mono _ _ _|exact lo_|refine LeO.ite ?_ ?_|refine LeO.bind ?_ (fun _ => ?_)
theorem Z12.mono : ∀ a0 a1 k, LeO (Z12.f k a0 a1) (Z12.f (k + 1) a0 a1) := by
 intro a0 a1 k
 have ih0 := Z12.mono_l k
 unfold Z12.f
 repeat' first|exact ih0 _ _ _|exact Z48.mono _ _ _|exact lo_|refine LeO.ite ?_ ?_|refine LeO.bind ?_ (fun _ => ?_)
set_option maxHeartbeats 8000000 in
set_option maxRecDepth 100000 in
theorem Z12.calls (k : Nat) (A0 : Option Addr) (c0 : Nat) (l0 : List (S38)) (a1 : Int) (r : Int) (w : World) (hr0 : Kd.C k38 w A0 l0.length l0) (hc0 : l0.length ≤ c0) (h : Z12.f k l0 a1 = some r) :
  Calls Tryz.prog 17 #[.slice A0 l0.length c0, .int .i64 a1] w fun e w' => e = .returned (.int .i64 r) ∧ Drawn0 w w' := by
 have HR0 := A_ hr0
 have HC0 := A_ hc0
 clear hr0 hc0
 have H := h
 unfold Z12.f at H
 clear h
 have H' := A_ H
 clear H
 go_enter Tryz.func17, Tryz.ntmps17
 go_wp2
 go_loopg [1, 5] k (fun kq v1 v5 w' => ∃ (x1_1 : Int) (x5_1 : Int), v1 = .int .i64 x1_1 ∧ v5 = .int .i64 x5_1 ∧ Aside0 (Z12.l0 kq l0 x1_1 x5_1 = some r) ∧ Aside0 (kq ≤ k) ∧ Drawn0 w w')
 case atStart => exact ⟨(a1), (0), qc_, qc_, H', ⟨nA_ _⟩, by repeat (first | exact Drawn0.refl _ | apply Drawn0.step)⟩
 case round =>
  clear H'
  obtain ⟨x1_1, x5_1, rfl, rfl, HA, HK1, ⟨m1, rfl⟩⟩ := hrel
  cases gk with
  | zero => exact absurd HA.out (by simp [Z12.l0])
  | succ k1 =>
   have H := HA.out
   clear HA
   simp only [Z12.l0] at H
   by_cases c3 : x5_1 < (l0.length : Int)
   ·rw [if_pos c3] at H
    have c3b0 := oC_ c3
    clear c3
    have c4 := cp_ H
    replace H := ca_ H
    have c4b0 := oC_ c4
    clear c4
    obtain ⟨t761, A5, H⟩ := bi_ H
    by_cases c6 : t761 < 0
    ·rw [if_pos c6] at H
     have c6b0 := oC_ c6
     clear c6
     obtain rfl := Option.some.inj H
     have p760 : 0 ≤ (x5_1 : Int) := oB_ qe_
     have q760 : x5_1 < (l0.length : Int) := oB_ qe_
     obtain ⟨ad760, A760_0, c760_0, A760_1, c760_1, e760, hx760_0, hx760_1, hl760_0, hi760_0, hl760_1, hi760_1⟩ := at_T38 HR0.out x5_1 p760 q760
     cases e760
     have HR760_0 := A_ hi760_0
     have HC760_0 := A_ hl760_0
     clear hi760_0 hl760_0
     have HR760_1 := A_ hi760_1
     have HC760_1 := A_ hl760_1
     clear hi760_1 hl760_1
     replace p760 := eq_true p760
     replace q760 := eq_true q760
     go_wp2_with (first | ((with_reducible refine gA_ (f := 29) rfl ?_); refine gL_ (some 18) Tryz.func29 #[.slice A760_0 ((rd_T38 l0 x5_1).f0).length c760_0, .int .i64 x1_1] rfl qa_ ?_; (with_reducible refine (Z48.calls k1 _ _ ((rd_T38 l0 x5_1).f0) x1_1 t761 _ (cc_ HR760_0) HC760_0.out A5.out).mono ?_); rintro e w' ⟨rfl, ⟨nd, rfl⟩⟩; refine ⟨_, rfl, ?_⟩))
     go_ret
     exact ⟨qc_, by repeat (first | exact Drawn0.refl _ | apply Drawn0.step)⟩
    ·rw [if_neg c6] at H
     have c6b0 := oD_ c6
     clear c6
     obtain ⟨t763, A7, H⟩ := bi_ H
     by_cases c8 : t763 < 0
     ·rw [if_pos c8] at H
      have c8b0 := oC_ c8
      clear c8
      obtain rfl := Option.some.inj H
      have p760 : 0 ≤ (x5_1 : Int) := oB_ qe_
      have q760 : x5_1 < (l0.length : Int) := oB_ qe_
      obtain ⟨ad760, A760_0, c760_0, A760_1, c760_1, e760, hx760_0, hx760_1, hl760_0, hi760_0, hl760_1, hi760_1⟩ := at_T38 HR0.out x5_1 p760 q760
      cases e760
      have HR760_0 := A_ hi760_0
      have HC760_0 := A_ hl760_0
      clear hi760_0 hl760_0
      have HR760_1 := A_ hi760_1
      have HC760_1 := A_ hl760_1
      clear hi760_1 hl760_1
      replace p760 := eq_true p760
      replace q760 := eq_true q760
      go_wp2_with (first | ((with_reducible refine gA_ (f := 29) rfl ?_); refine gL_ (some 18) Tryz.func29 #[.slice A760_0 ((rd_T38 l0 x5_1).f0).length c760_0, .int .i64 x1_1] rfl qa_ ?_; (with_reducible refine (Z48.calls k1 _ _ ((rd_T38 l0 x5_1).f0) x1_1 t761 _ (cc_ HR760_0) HC760_0.out A5.out).mono ?_); rintro e w' ⟨rfl, ⟨nd, rfl⟩⟩; refine ⟨_, rfl, ?_⟩; have p762 : 0 ≤ (x5_1 : Int) := oB_ qe_; have q762 : x5_1 < (l0.length : Int) := oB_ qe_; obtain ⟨ad762, A762_0, c762_0, A762_1, c762_1, e762, hx762_0, hx762_1, hl762_0, hi762_0, hl762_1, hi762_1⟩ := at_T38 HR0.out x5_1 p762 q762; obtain rfl : ad760 = ad762 := (by injection e762); have HR762_0 := A_ hi762_0; have HC762_0 := A_ hl762_0; clear hi762_0 hl762_0; have HR762_1 := A_ hi762_1; have HC762_1 := A_ hl762_1; clear hi762_1 hl762_1; replace p762 := eq_true p762; replace q762 := eq_true q762; have ea_ := Option.some.inj (hx760_0.symm.trans hx762_0); injection ea_ with ea_ en_ ec_; subst ea_; subst ec_; clear en_; have ea_ := Option.some.inj (hx760_1.symm.trans hx762_1); injection ea_ with ea_ en_ ec_; subst ea_; subst ec_; clear en_) | ((with_reducible refine gA_ (f := 29) rfl ?_); refine gL_ (some 27) Tryz.func29 #[.slice A760_1 ((rd_T38 l0 x5_1).f1).length c760_1, .int .i64 t761] rfl qa_ ?_; (with_reducible refine (Z48.calls k1 _ _ ((rd_T38 l0 x5_1).f1) t761 t763 _ (cc_ HR762_1) HC762_1.out A7.out).mono ?_); rintro e w' ⟨rfl, ⟨nd, rfl⟩⟩; refine ⟨_, rfl, ?_⟩))
      go_ret
      exact ⟨qc_, by repeat (first | exact Drawn0.refl _ | apply Drawn0.step)⟩
     ·rw [if_neg c8] at H
      have c8b0 := oD_ c8
      clear c8
      have H' := A_ H
      clear H
      have p760 : 0 ≤ (x5_1 : Int) := oB_ qe_
      have q760 : x5_1 < (l0.length : Int) := oB_ qe_
      obtain ⟨ad760, A760_0, c760_0, A760_1, c760_1, e760, hx760_0, hx760_1, hl760_0, hi760_0, hl760_1, hi760_1⟩ := at_T38 HR0.out x5_1 p760 q760
      cases e760
      have HR760_0 := A_ hi760_0
      have HC760_0 := A_ hl760_0
      clear hi760_0 hl760_0
      have HR760_1 := A_ hi760_1
      have HC760_1 := A_ hl760_1
      clear hi760_1 hl760_1
      replace p760 := eq_true p760
      replace q760 := eq_true q760
      go_wp2_with (first | ((with_reducible refine gA_ (f := 29) rfl ?_); refine gL_ (some 18) Tryz.func29 #[.slice A760_0 ((rd_T38 l0 x5_1).f0).length c760_0, .int .i64 x1_1] rfl qa_ ?_; (with_reducible refine (Z48.calls k1 _ _ ((rd_T38 l0 x5_1).f0) x1_1 t761 _ (cc_ HR760_0) HC760_0.out A5.out).mono ?_); rintro e w' ⟨rfl, ⟨nd, rfl⟩⟩; refine ⟨_, rfl, ?_⟩; have p762 : 0 ≤ (x5_1 : Int) := oB_ qe_; have q762 : x5_1 < (l0.length : Int) := oB_ qe_; obtain ⟨ad762, A762_0, c762_0, A762_1, c762_1, e762, hx762_0, hx762_1, hl762_0, hi762_0, hl762_1, hi762_1⟩ := at_T38 HR0.out x5_1 p762 q762; obtain rfl : ad760 = ad762 := (by injection e762); have HR762_0 := A_ hi762_0; have HC762_0 := A_ hl762_0; clear hi762_0 hl762_0; have HR762_1 := A_ hi762_1; have HC762_1 := A_ hl762_1; clear hi762_1 hl762_1; replace p762 := eq_true p762; replace q762 := eq_true q762; have ea_ := Option.some.inj (hx760_0.symm.trans hx762_0); injection ea_ with ea_ en_ ec_; subst ea_; subst ec_; clear en_; have ea_ := Option.some.inj (hx760_1.symm.trans hx762_1); injection ea_ with ea_ en_ ec_; subst ea_; subst ec_; clear en_) | ((with_reducible refine gA_ (f := 29) rfl ?_); refine gL_ (some 27) Tryz.func29 #[.slice A760_1 ((rd_T38 l0 x5_1).f1).length c760_1, .int .i64 t761] rfl qa_ ?_; (with_reducible refine (Z48.calls k1 _ _ ((rd_T38 l0 x5_1).f1) t761 t763 _ (cc_ HR762_1) HC762_1.out A7.out).mono ?_); rintro e w' ⟨rfl, ⟨nd, rfl⟩⟩; refine ⟨_, rfl, ?_⟩))
      go_roundg k1
      case measure => have := HK1.out; omega
      case rel => exact ⟨(t763), (wrap64 (x5_1 + 1)), qc_, qc_, H', ⟨by have := HK1.out; omega⟩, by repeat (first | exact Drawn0.refl _ | apply Drawn0.step)⟩
   ·rw [if_neg c3] at H
    have c3b0 := oD_ c3
    clear c3
    obtain rfl := Option.some.inj H
    go_wp2
    go_ret
    exact ⟨qc_, by repeat (first | exact Drawn0.refl _ | apply Drawn0.step)⟩
end Go.Proofs.YtoijcallajegfaaGreat.A
end
section
/- What a call made lies apart from what was there. No conditions. -/
namespace Go.Proofs.YtoijcallajegfaaGreat.M
open Go.RowKit Go.Proofs.YtoijcallajegfaaGreatW.PrintWords Go.Proofs.YtoijcallajegfaaGreatW.PrintLast Go.Proofs.YtoijcallajegfaaGreatW.PrintMore
theorem fresh_R {α : Type} {d : Kd α} {e b b0 : Nat} {w : World} {ok : Nat → Prop} {v : Value} {xs : List α} (h : d.R e w b ok v xs) (hb : b0 ≤ b) : d.R e w b0 (fun k => b ≤ k ∧ k < w.heap.size) v xs :=
 Kd.R_lower (Kd.R_mono (Kd.R_bound h) (fun _ hk => ⟨hk.2.1, hk.2.2.1⟩)) hb
theorem fresh_S {α : Type} {d : Kd α} {e b b0 : Nat} {w : World} {ok : Nat → Prop} {v : Value} {xs : List α} (h : Kd.S d e w b ok v xs) (hb : b0 ≤ b) : Kd.S d e w b0 (fun k => b ≤ k ∧ k < w.heap.size) v xs :=
 Kd.S_lower (Kd.S_mono (Kd.S_bound h) (fun _ hk => ⟨hk.2.1, hk.2.2.1⟩)) hb
end Go.Proofs.YtoijcallajegfaaGreat.M
end
section
namespace Go.Proofs.YtoijcallajegfaaGreat.A
open Go.RowKit Go.Proofs.YtoijcallajegfaaGreatW.PrintWords Go.Proofs.YtoijcallajegfaaGreatW.PrintLast Go.Proofs.YtoijcallajegfaaGreatW.PrintMore Go.Proofs.YtoijcallajegfaaGreat.M
set_option linter.unusedVariables false
set_option linter.unusedSimpArgs false
theorem fresh_N {α : Type} {d : Kd α} {e b b0 : Nat} {w : World} {ok : Nat → Prop} {v : Value} {xs : List α} (h : Kd.N d e w b ok v xs) (hb : b0 ≤ b) : Kd.N d e w b0 (fun k => 0 ≤ k ∧ k < w.heap.size) v xs := Kd.N_lower (Kd.N_mono (Kd.N_bound h) (fun _ hk => ⟨Nat.zero_le _, hk.2⟩)) hb
def Z2.F (k : Nat) (a0 : Int) (l1 : List Int) : Prop := (l1.length : Int) > 1048576 ∨ (¬ (l1.length : Int) > 1048576 ∧ (∃ (r0 : List S38) (km1 : Int) (ya1 : List Int) (m0 : Int) (z0 : List S38), Z63.f k l1 = some l1 ∧ Z62.f k l1 l1 = some true ∧ Z23.f k a0 l1 = some r0 ∧ Z21.f k a0 l1 = some r0 ∧ Z22.f k r0 r0 = some true ∧ Z49.f k l1 1 = some (km1, ya1) ∧ decide (km1 < 0) = false ∧ Z13.f k r0 1 = some (m0, z0) ∧ Z12.f k z0 1 = some m0 ∧ decide (m0 < 0) = false))
set_option maxHeartbeats 8000000 in
set_option maxRecDepth 100000 in
theorem Z2.calls (k : Nat) (a0 : Int) (A1 : Option Addr) (c1 : Nat) (l1 : List Int) (w : World) (hr1 : Kd.C (Kd.int .i64) w A1 l1.length l1) (hc1 : l1.length ≤ c1) (h : Z2.F k a0 l1) :
  Calls Tryz.prog 4 #[.int .i64 a0, .slice A1 l1.length c1] w fun e w' => e = .returned (.bool true) ∧ Below w.heap.size w w' := by
 have HR1 := A_ hr1; have HC1 := A_ hc1; clear hr1 hc1
 have HB := A_ (Below.refl w.heap.size w)
 unfold Z2.F at h
 rcases h with hbig | ⟨hbig, h⟩
 ·have hb0 : decide ((l1.length : Int) > 1048576) = true := oC_ hbig
  have hb1 : decide (1048576 < (l1.length : Int)) = true := oC_ hbig
  go_enter Tryz.func4, Tryz.ntmps4
  go_wp2
  go_ret
  exact ⟨rfl, HB.out⟩
 have hz1 : decide ((l1.length : Int) > 1048576) = false := oD_ hbig
 have hy1 : decide (1048576 < (l1.length : Int)) = false := oD_ hbig
 clear hbig
 obtain ⟨r0, km1, ya1, m0, z0, FS1, FE1, FW, FG, FQ0, FK1, FKK, FM0, FH0, FMM0⟩ := h
 replace FS1 := A_ FS1
 replace FE1 := A_ FE1
 replace FW := A_ FW
 replace FG := A_ FG
 replace FQ0 := A_ FQ0
 replace FK1 := A_ FK1
 replace FM0 := A_ FM0
 replace FH0 := A_ FH0
 go_enter Tryz.func4, Tryz.ntmps4
 go_upto_region 3 with (fail)
 go_upto_region 4 with (first | ((with_reducible refine gA_ (f := 11) rfl ?_); refine goesL_ _ rfl rfl Tryz.func11 (by kernel_rfl) rfl #[.slice A1 l1.length c1] rfl (by (try simp only [mA_, mB_, mC_]); first | done | rfl) ?_; have HBo := HB.out; refine (Z63.calls k A1 c1 l1 l1 _ (cD_ HR1.out HB.out) HC1.out FS1.out).mono ?_; rintro e w1 ⟨v0_, rfl, h0_, hb0⟩; refine ⟨_, rfl, ?_⟩; have n_ := A_ (below_then HBo HBo.size hb0); clear HB; have HB := n_; clear n_; have HSw1 := A_ hb0.size; have Hx1a := A_ (fresh_R (b0 := w.heap.size) h0_ HBo.size); clear h0_; obtain ⟨Ax1a, cx1a, ex1a⟩ := Kd.R_slice Hx1a.out; subst ex1a; clear hb0 HBo) | ((with_reducible refine gA_ (f := 10) rfl ?_); refine goesL_ _ rfl rfl Tryz.func10 (by kernel_rfl) rfl #[.int .i64 a0, .slice Ax1a l1.length cx1a] rfl (by (try simp only [mA_, mB_, mC_]); first | done | rfl) ?_; have HBo := HB.out; refine (Z23.calls k a0 Ax1a cx1a l1 r0 _ (Kd.R_reads' Hx1a.out).2.2 (Kd.R_reads' Hx1a.out).2.1 FW.out).mono ?_; rintro e w2 ⟨v0_, rfl, h0_, hb0⟩; refine ⟨_, rfl, ?_⟩; have n_ := A_ (rD_ Hx1a.out hb0); clear Hx1a; have Hx1a := n_; clear n_; have n_ := A_ (below_then HBo HBo.size hb0); clear HB; have HB := n_; clear n_; have HSw2 := A_ hb0.size; have Hw0 := A_ (fresh_N (b0 := w.heap.size) h0_ HBo.size); clear h0_; obtain ⟨Aw0, cw0, ew0⟩ := Kd.N_slice Hw0.out; subst ew0; clear hb0 HBo; clear Hx1a))
 go_upto_region 5 with (first | ((with_reducible refine gA_ (f := 11) rfl ?_); refine goesL_ _ rfl rfl Tryz.func11 (by kernel_rfl) rfl #[.slice A1 l1.length c1] rfl (by (try simp only [mA_, mB_, mC_]); first | done | rfl) ?_; have HBo := HB.out; refine (Z63.calls k A1 c1 l1 l1 _ (cD_ HR1.out HB.out) HC1.out FS1.out).mono ?_; rintro e w3 ⟨v0_, rfl, h0_, hb0⟩; refine ⟨_, rfl, ?_⟩; have n_ := A_ (Kd.N_below Hw0.out hb0); clear Hw0; have Hw0 := n_; clear n_; have n_ := A_ (below_then HBo HBo.size hb0); clear HB; have HB := n_; clear n_; have HSw3 := A_ hb0.size; have Hx2a := A_ (fresh_R (b0 := w.heap.size) h0_ HBo.size); clear h0_; obtain ⟨Ax2a, cx2a, ex2a⟩ := Kd.R_slice Hx2a.out; subst ex2a; clear hb0 HBo))
 go_upto_region 6 with (first | ((with_reducible refine gA_ (f := 12) rfl ?_); refine goesL_ _ rfl rfl Tryz.func12 (by kernel_rfl) rfl #[.int .i64 a0, .slice Ax2a l1.length cx2a] rfl (by (try simp only [mA_, mB_, mC_]); first | done | rfl) ?_; have HBo := HB.out; refine (Z21.calls k a0 Ax2a cx2a l1 r0 _ (Kd.R_reads' Hx2a.out).2.2 (Kd.R_reads' Hx2a.out).2.1 FG.out).mono ?_; rintro e w4 ⟨v0_, rfl, h0_, hb0⟩; refine ⟨_, rfl, ?_⟩; have n_ := A_ (Kd.N_below Hw0.out hb0); clear Hw0; have Hw0 := n_; clear n_; have n_ := A_ (rD_ Hx2a.out hb0); clear Hx2a; have Hx2a := n_; clear n_; have n_ := A_ (below_then HBo HBo.size hb0); clear HB; have HB := n_; clear n_; have HSw4 := A_ hb0.size; have Hg0 := A_ (fresh_S (b0 := w.heap.size) h0_ HBo.size); clear h0_; obtain ⟨Ag0, cg0, eg0⟩ := Kd.R_slice (Kd.S_R Hg0.out); subst eg0; clear hb0 HBo))
 go_upto_region 8 with (first | ((with_reducible refine gA_ (f := 13) rfl ?_); refine goesL_ _ rfl rfl Tryz.func13 (by kernel_rfl) rfl #[.slice Ag0 r0.length cg0, .slice Aw0 r0.length cw0] rfl (by (try simp only [mA_, mB_, mC_]); first | done | rfl) ?_; have HBo := HB.out; refine (Z22.calls k Ag0 cg0 r0 Aw0 cw0 r0 true _ (Kd.R_reads' (Kd.S_R Hg0.out)).2.2 (Kd.R_reads' (Kd.S_R Hg0.out)).2.1 (Kd.N_reads' Hw0.out).2.2 (Kd.N_reads' Hw0.out).2.1 FQ0.out).mono ?_; rintro e w5 ⟨rfl, hb0⟩; refine ⟨_, rfl, ?_⟩; have n_ := A_ (Kd.N_below Hw0.out hb0); clear Hw0; have Hw0 := n_; clear n_; have n_ := A_ (rD_ Hx2a.out hb0); clear Hx2a; have Hx2a := n_; clear n_; have n_ := A_ (Kd.S_below Hg0.out hb0); clear Hg0; have Hg0 := n_; clear n_; have n_ := A_ (below_then HBo HBo.size hb0); clear HB; have HB := n_; clear n_; have HSw5 := A_ hb0.size; clear hb0 HBo))
 go_upto_region 11 with (first | ((with_reducible refine gA_ (f := 11) rfl ?_); refine goesL_ _ rfl rfl Tryz.func11 (by kernel_rfl) rfl #[.slice A1 l1.length c1] rfl (by (try simp only [mA_, mB_, mC_]); first | done | rfl) ?_; have HBo := HB.out; refine (Z63.calls k A1 c1 l1 l1 _ (cD_ HR1.out HB.out) HC1.out FS1.out).mono ?_; rintro e w6 ⟨v0_, rfl, h0_, hb0⟩; refine ⟨_, rfl, ?_⟩; have n_ := A_ (Kd.N_below Hw0.out hb0); clear Hw0; have Hw0 := n_; clear n_; have n_ := A_ (rD_ Hx2a.out hb0); clear Hx2a; have Hx2a := n_; clear n_; have n_ := A_ (Kd.S_below Hg0.out hb0); clear Hg0; have Hg0 := n_; clear n_; have n_ := A_ (below_then HBo HBo.size hb0); clear HB; have HB := n_; clear n_; have HSw6 := A_ hb0.size; have Hx3a := A_ (fresh_R (b0 := w.heap.size) h0_ HBo.size); clear h0_; obtain ⟨Ax3a, cx3a, ex3a⟩ := Kd.R_slice Hx3a.out; subst ex3a; clear hb0 HBo) | ((with_reducible refine gA_ (f := 14) rfl ?_); refine goesL_ _ rfl rfl Tryz.func14 (by kernel_rfl) rfl #[.slice Ax2a l1.length cx2a, .slice Ax3a l1.length cx3a] rfl (by (try simp only [mA_, mB_, mC_]); first | done | rfl) ?_; have HBo := HB.out; refine (Z62.calls k Ax2a cx2a l1 Ax3a cx3a l1 true _ (Kd.R_reads' Hx2a.out).2.2 (Kd.R_reads' Hx2a.out).2.1 (Kd.R_reads' Hx3a.out).2.2 (Kd.R_reads' Hx3a.out).2.1 FE1.out).mono ?_; rintro e w7 ⟨rfl, hd⟩; refine ⟨_, rfl, ?_⟩; replace hd := Drawn0.below hd; have n_ := A_ (Kd.N_below Hw0.out hd); clear Hw0; have Hw0 := n_; clear n_; have n_ := A_ (rD_ Hx2a.out hd); clear Hx2a; have Hx2a := n_; clear n_; have n_ := A_ (Kd.S_below Hg0.out hd); clear Hg0; have Hg0 := n_; clear n_; have n_ := A_ (rD_ Hx3a.out hd); clear Hx3a; have Hx3a := n_; clear n_; have n_ := A_ (below_then HBo HBo.size hd); clear HB; have HB := n_; clear n_; have HSw7 := A_ hd.size; clear hd HBo; clear Hx3a))
 go_upto_region 12 with (first | ((with_reducible refine gA_ (f := 15) rfl ?_); refine goesL_ _ rfl rfl Tryz.func15 (by kernel_rfl) rfl #[.slice Ax2a l1.length cx2a, .int .i64 1] rfl (by (try simp only [mA_, mB_, mC_]); first | done | rfl) ?_; have HBo := HB.out; refine (Z49.calls k (fun k_ => some k_ = (.slice Ax2a l1.length cx2a : Value).ownBlock) _ l1 1 km1 ya1 w _ HB.out (Kd.R_tight rfl Hx2a.out) FK1.out).mono ?_; rintro e w8 ⟨rfl, hy0_, hb0, hkp⟩; refine ⟨_, rfl, ?_⟩; have n_ := A_ (Kd.N_kept Hw0.out hkp (fun k_ hk hs => by have := hk.1; have := hk.2; have h1 := (Hx2a.out.1 _ hs.symm).1; have h2 := (Hx2a.out.1 _ hs.symm).2; have := HSw1.out; have := HSw2.out; have := HSw3.out; have := HSw4.out; have := HSw5.out; have := HSw6.out; have := HSw7.out; omega)); clear Hw0; have Hw0 := n_; clear n_; have n_ := A_ (Kd.S_kept Hg0.out hkp (fun k_ hk hs => by have := hk.1; have := hk.2; have h1 := (Hx2a.out.1 _ hs.symm).1; have h2 := (Hx2a.out.1 _ hs.symm).2; have := HSw1.out; have := HSw2.out; have := HSw3.out; have := HSw4.out; have := HSw5.out; have := HSw6.out; have := HSw7.out; omega)); clear Hg0; have Hg0 := n_; clear n_; have n_ := A_ (hb0); clear HB; have HB := n_; clear n_; have HSw8 := A_ hkp.1; clear Hx2a; clear hb0 hkp HBo))
 go_upto_region 15 with (first | (go_at_call 13; have HBo := HB.out; refine (Z22.calls k Ag0 cg0 r0 Aw0 cw0 r0 true _ (Kd.R_reads' (Kd.S_R Hg0.out)).2.2 (Kd.R_reads' (Kd.S_R Hg0.out)).2.1 (Kd.N_reads' Hw0.out).2.2 (Kd.N_reads' Hw0.out).2.1 FQ0.out).mono ?_; rintro e w9 ⟨rfl, hb0⟩; have n_ := A_ (Kd.N_below Hw0.out hb0); clear Hw0; have Hw0 := n_; clear n_; have n_ := A_ (Kd.S_below Hg0.out hb0); clear Hg0; have Hg0 := n_; clear n_; have n_ := A_ (below_then HBo HBo.size hb0); clear HB; have HB := n_; clear n_; have HSw9 := A_ hb0.size; clear hb0 HBo))
 go_upto_region 17 with (first | ((with_reducible refine gA_ (f := 16) rfl ?_); refine goesL_ _ rfl rfl Tryz.func16 (by kernel_rfl) rfl #[.slice Ag0 r0.length cg0, .int .i64 1] rfl (by (try simp only [mA_, mB_, mC_]); first | done | rfl) ?_; have HBo := HB.out; refine (Z13.calls k (fun k_ => w3.heap.size ≤ k_ ∧ k_ < w4.heap.size) _ r0 1 m0 z0 w _ HB.out Hg0.out FM0.out).mono ?_; rintro e w10 ⟨rfl, hy0_, hb0, hkp⟩; refine ⟨_, rfl, ?_⟩; have Xy := A_ (hy0_); have n_ := A_ (Kd.N_kept Hw0.out hkp (fun k_ hk hs => by have := hk.1; have := hk.2; have := hs.1; have := hs.2; have := HSw1.out; have := HSw2.out; have := HSw3.out; have := HSw4.out; have := HSw5.out; have := HSw6.out; have := HSw7.out; have := HSw8.out; have := HSw9.out; omega)); clear Hw0; have Hw0 := n_; clear n_; have n_ := A_ (hb0); clear HB; have HB := n_; clear n_; have HSw10 := A_ hkp.1; clear Hg0; have Hy := Xy; clear Xy; clear hb0 hkp HBo; have Hg0 := Hy; clear Hy; have EL0 := A_ (show r0.length = z0.length from (Kd.R_reads' (Kd.S_R Hg0.out)).1)))
 go_upto_region 22 with (first | ((with_reducible refine gA_ (f := 17) rfl ?_); refine goesL_ _ rfl rfl Tryz.func17 (by kernel_rfl) rfl #[.slice Ag0 z0.length cg0, .int .i64 1] rfl (by (try simp only [mA_, mB_, mC_]); first | done | rfl | (rw [← EL0.out]; rfl)) ?_; have HBo := HB.out; refine (Z12.calls k Ag0 cg0 z0 1 m0 _ (Kd.R_reads' (Kd.S_R Hg0.out)).2.2 (Nat.le_trans (Nat.le_of_eq EL0.out.symm) (Kd.R_reads' (Kd.S_R Hg0.out)).2.1) FH0.out).mono ?_; rintro e w11 ⟨rfl, hd⟩; refine ⟨_, rfl, ?_⟩; replace hd := Drawn0.below hd; have n_ := A_ (Kd.N_below Hw0.out hd); clear Hw0; have Hw0 := n_; clear n_; have n_ := A_ (Kd.S_below Hg0.out hd); clear Hg0; have Hg0 := n_; clear n_; have n_ := A_ (below_then HBo HBo.size hd); clear HB; have HB := n_; clear n_; have HSw11 := A_ hd.size; clear hd HBo))
 go_upto_region 23 with (first | ((with_reducible refine gA_ (f := 11) rfl ?_); refine goesL_ _ rfl rfl Tryz.func11 (by kernel_rfl) rfl #[.slice A1 l1.length c1] rfl (by (try simp only [mA_, mB_, mC_]); first | done | rfl | (rw [← EL0.out]; rfl)) ?_; have HBo := HB.out; refine (Z63.calls k A1 c1 l1 l1 _ (cD_ HR1.out HB.out) HC1.out FS1.out).mono ?_; rintro e w12 ⟨v0_, rfl, h0_, hb0⟩; refine ⟨_, rfl, ?_⟩; have n_ := A_ (Kd.N_below Hw0.out hb0); clear Hw0; have Hw0 := n_; clear n_; have n_ := A_ (Kd.S_below Hg0.out hb0); clear Hg0; have Hg0 := n_; clear n_; have n_ := A_ (below_then HBo HBo.size hb0); clear HB; have HB := n_; clear n_; have HSw12 := A_ hb0.size; have Hx4a := A_ (fresh_R (b0 := w.heap.size) h0_ HBo.size); clear h0_; obtain ⟨Ax4a, cx4a, ex4a⟩ := Kd.R_slice Hx4a.out; subst ex4a; clear hb0 HBo) | ((with_reducible refine gA_ (f := 12) rfl ?_); refine goesL_ _ rfl rfl Tryz.func12 (by kernel_rfl) rfl #[.int .i64 a0, .slice Ax4a l1.length cx4a] rfl (by (try simp only [mA_, mB_, mC_]); first | done | rfl | (rw [← EL0.out]; rfl)) ?_; have HBo := HB.out; refine (Z21.calls k a0 Ax4a cx4a l1 r0 _ (Kd.R_reads' Hx4a.out).2.2 (Kd.R_reads' Hx4a.out).2.1 FG.out).mono ?_; rintro e w13 ⟨v0_, rfl, h0_, hb0⟩; refine ⟨_, rfl, ?_⟩; have n_ := A_ (Kd.N_below Hw0.out hb0); clear Hw0; have Hw0 := n_; clear n_; have n_ := A_ (Kd.S_below Hg0.out hb0); clear Hg0; have Hg0 := n_; clear n_; have n_ := A_ (rD_ Hx4a.out hb0); clear Hx4a; have Hx4a := n_; clear n_; have n_ := A_ (below_then HBo HBo.size hb0); clear HB; have HB := n_; clear n_; have HSw13 := A_ hb0.size; have Hh0 := A_ (fresh_S (b0 := w.heap.size) h0_ HBo.size); clear h0_; obtain ⟨Ah0, ch0, eh0⟩ := Kd.R_slice (Kd.S_R Hh0.out); subst eh0; clear hb0 HBo))
 go_upto_region 26 with (first | ((with_reducible refine gA_ (f := 13) rfl ?_); refine goesL_ _ rfl rfl Tryz.func13 (by kernel_rfl) rfl #[.slice Ah0 r0.length ch0, .slice Aw0 r0.length cw0] rfl (by (try simp only [mA_, mB_, mC_]); first | done | rfl | (rw [← EL0.out]; rfl)) ?_; have HBo := HB.out; refine (Z22.calls k Ah0 ch0 r0 Aw0 cw0 r0 true _ (Kd.R_reads' (Kd.S_R Hh0.out)).2.2 (Kd.R_reads' (Kd.S_R Hh0.out)).2.1 (Kd.N_reads' Hw0.out).2.2 (Kd.N_reads' Hw0.out).2.1 FQ0.out).mono ?_; rintro e w14 ⟨rfl, hb0⟩; refine ⟨_, rfl, ?_⟩; have n_ := A_ (Kd.N_below Hw0.out hb0); clear Hw0; have Hw0 := n_; clear n_; have n_ := A_ (Kd.S_below Hg0.out hb0); clear Hg0; have Hg0 := n_; clear n_; have n_ := A_ (rD_ Hx4a.out hb0); clear Hx4a; have Hx4a := n_; clear n_; have n_ := A_ (Kd.S_below Hh0.out hb0); clear Hh0; have Hh0 := n_; clear n_; have n_ := A_ (below_then HBo HBo.size hb0); clear HB; have HB := n_; clear n_; have HSw14 := A_ hb0.size; clear hb0 HBo))
 go_wp2_with (first | ((with_reducible refine gA_ (f := 17) rfl ?_); refine goesL_ _ rfl rfl Tryz.func17 (by kernel_rfl) rfl #[.slice Ag0 z0.length cg0, .int .i64 1] rfl (by (try simp only [mA_, mB_, mC_]); first | done | rfl | (rw [← EL0.out]; rfl)) ?_; have HBo := HB.out; refine (Z12.calls k Ag0 cg0 z0 1 m0 _ (Kd.R_reads' (Kd.S_R Hg0.out)).2.2 (Nat.le_trans (Nat.le_of_eq EL0.out.symm) (Kd.R_reads' (Kd.S_R Hg0.out)).2.1) FH0.out).mono ?_; rintro e w15 ⟨rfl, hd⟩; refine ⟨_, rfl, ?_⟩; replace hd := Drawn0.below hd; have n_ := A_ (Kd.N_below Hw0.out hd); clear Hw0; have Hw0 := n_; clear n_; have n_ := A_ (Kd.S_below Hg0.out hd); clear Hg0; have Hg0 := n_; clear n_; have n_ := A_ (rD_ Hx4a.out hd); clear Hx4a; have Hx4a := n_; clear n_; have n_ := A_ (Kd.S_below Hh0.out hd); clear Hh0; have Hh0 := n_; clear n_; have n_ := A_ (below_then HBo HBo.size hd); clear HB; have HB := n_; clear n_; have HSw15 := A_ hd.size; clear hd HBo))
 go_ret
 exact ⟨rfl, HB.out⟩
end Go.Proofs.YtoijcallajegfaaGreat.A
end
section
/- Lists of surfaces sorted, each once: put in one by one, or all at the end. No conditions. -/
namespace Go.Proofs.YtoijcallajegfaaGreat.M
set_option linter.unusedVariables false
set_option linter.unusedSimpArgs false
open Go.RowKit Go.Proofs.YtoijcallajegfaaGreatW.PrintWords Go.Proofs.YtoijcallajegfaaGreatW.PrintLast Go.Proofs.YtoijcallajegfaaGreatW.PrintMore Go.Proofs.YtoijcallajegfaaGreat.A
def Up (l : List (List Nat × List Nat)) : Prop := l.Pairwise (fun a b => cmpS a b < 0)
theorem Up.nodup {l : List (List Nat × List Nat)} (h : Up l) : l.Nodup :=
 h.imp (fun {a b} hab e => by subst e; rw [(cmpS_eq _ _).2 rfl] at hab; omega)
theorem up_uniq {l l' : List (List Nat × List Nat)} (h : Up l) (h' : Up l') (hm : ∀ x, x ∈ l ↔ x ∈ l') : l = l' := by
 refine List.Perm.eq_of_pairwise (le := fun a b => cmpS a b < 0) ?_ h h' ((List.perm_ext_iff_of_nodup h.nodup h'.nodup).2 hm)
 intro a b _ _ h1 h2
 have := cmpS_neg a b
 omega
def insS (l : List (List Nat × List Nat)) (s : List Nat × List Nat) : List (List Nat × List Nat) :=
 match l with
 | [] => [s]
 | x :: xs => if x = s then x :: xs else if cmpS s x < 0 then s :: x :: xs else x :: insS xs s
theorem mem_insS {l : List (List Nat × List Nat)} {s y : List Nat × List Nat} : y ∈ insS l s ↔ y = s ∨ y ∈ l := by
 induction l with
 | nil => simp [insS]
 | cons x xs ih =>
  unfold insS
  split
  ·rename_i e; subst e; simp
  ·split
   ·simp
   ·simp only [List.mem_cons, ih]
    constructor
    ·rintro (h | h | h)
     ·exact .inr (.inl h)
     ·exact .inl h
     ·exact .inr (.inr h)
    ·rintro (h | h | h)
     ·exact .inr (.inl h)
     ·exact .inl h
     ·exact .inr (.inr h)
theorem up_insS {l : List (List Nat × List Nat)} (s : List Nat × List Nat) (h : Up l) : Up (insS l s) := by
 induction l with
 | nil => exact List.pairwise_singleton _ _
 | cons x xs ih =>
  obtain ⟨h1, h2⟩ := List.pairwise_cons.1 h
  unfold insS
  split
  ·exact h
  ·rename_i hne
   split
   ·rename_i hlt
    refine List.pairwise_cons.2 ⟨?_, h⟩
    intro y hy
    rcases List.mem_cons.1 hy with rfl | hy
    ·exact hlt
    ·exact cmpS_tr _ _ _ hlt (h1 y hy)
   ·rename_i hnl
    refine List.pairwise_cons.2 ⟨?_, ih h2⟩
    intro y hy
    rcases mem_insS.1 hy with rfl | hy
    ·have e := cmpS_neg x y
     have : cmpS x y ≠ 0 := fun h0 => hne ((cmpS_eq _ _).1 h0)
     omega
    ·exact h1 y hy
def insAll (l : List (List Nat × List Nat)) (ss : List (List Nat × List Nat)) : List (List Nat × List Nat) := ss.foldl insS l
theorem up_insAll : ∀ (ss l : List (List Nat × List Nat)), Up l → Up (insAll l ss)
 | [], _, h => h
 | s :: ss, l, h => up_insAll ss (insS l s) (up_insS s h)
theorem mem_insAll : ∀ (ss l : List (List Nat × List Nat)) (y : List Nat × List Nat), y ∈ insAll l ss ↔ y ∈ l ∨ y ∈ ss
 | [], l, y => by simp [insAll]
 | s :: ss, l, y => by
  have := mem_insAll ss (insS l s) y
  rw [mem_insS] at this
  show y ∈ insAll (insS l s) ss ↔ _
  rw [this, List.mem_cons]
  constructor
  ·rintro ((h | h) | h)
   ·exact .inr (.inl h)
   ·exact .inl h
   ·exact .inr (.inr h)
  ·rintro (h | h | h)
   ·exact .inl (.inr h)
   ·exact .inl (.inl h)
   ·exact .inr h
theorem mem_cptGo : ∀ (p : List Nat × List Nat) (l : List (List Nat × List Nat)) (y : List Nat × List Nat), y ∈ p :: cptGo (fun a b => decide (a = b)) p l ↔ y ∈ p :: l
 | p, [], y => by simp [cptGo]
 | p, x :: l, y => by
  have := mem_cptGo x l y
  unfold cptGo
  by_cases e : x = p
  ·subst e
   simp only [decide_true, if_true]
   rw [this]
   simp
  ·simp only [e, decide_false, Bool.false_eq_true, if_false]
   rw [List.mem_cons, this, List.mem_cons (l := x :: l)]
theorem up_cptGo : ∀ (p : List Nat × List Nat) (l : List (List Nat × List Nat)), (p :: l).Pairwise (fun a b => ¬ cmpS b a < 0) → Up (p :: cptGo (fun a b => decide (a = b)) p l)
 | p, [], _ => List.pairwise_singleton _ _
 | p, x :: l, h => by
  obtain ⟨h1, h2⟩ := List.pairwise_cons.1 h
  have := up_cptGo x l h2
  unfold cptGo
  by_cases e : x = p
  ·subst e
   simp only [decide_true, if_true]
   exact this
  ·simp only [e, decide_false, Bool.false_eq_true, if_false]
   refine List.pairwise_cons.2 ⟨?_, this⟩
   intro y hy
   rw [mem_cptGo] at hy
   have hpx : cmpS p x < 0 := by
    have a := h1 x (by simp)
    have b := cmpS_neg p x
    have c : cmpS p x ≠ 0 := fun h0 => e ((cmpS_eq _ _).1 h0).symm
    omega
   rcases List.mem_cons.1 hy with rfl | hy
   ·exact hpx
   ·have hxy := (List.pairwise_cons.1 h2).1 y hy
    by_cases e0 : cmpS x y = 0
    ·rw [← (cmpS_eq _ _).1 e0]; exact hpx
    ·have := cmpS_neg x y
     exact cmpS_tr _ _ _ hpx (by omega)
theorem sortS_ins (l : List (List Nat × List Nat)) : sortS l = insAll [] l := by
 have hp := List.mergeSort_perm l (fun a b => decide (¬ cmpS b a < 0))
 have hs : (l.mergeSort (fun a b => decide (¬ cmpS b a < 0))).Pairwise (fun a b => ¬ cmpS b a < 0) := by
  have := List.pairwise_mergeSort (le := fun a b => decide (¬ cmpS b a < 0)) (fun a b c h1 h2 => decide_eq_true (cmpS_le_tr c b a (of_decide_eq_true h2) (of_decide_eq_true h1))) (fun a b => by
   have := cmpS_neg a b
   simp only [Bool.or_eq_true, decide_eq_true_eq]
   omega) l
  exact this.imp (fun h => of_decide_eq_true h)
 unfold sortS
 generalize l.mergeSort (fun a b => decide (¬ cmpS b a < 0)) = m at hp hs
 have h2 := up_insAll l [] List.Pairwise.nil
 cases m with
 | nil =>
  have : l = [] := hp.symm.eq_nil
  subst this
  rfl
 | cons x m =>
  refine up_uniq (up_cptGo x m hs) h2 ?_
  intro y
  rw [mem_insAll]
  show y ∈ x :: cptGo (fun a b => decide (a = b)) x m ↔ _
  rw [mem_cptGo, hp.mem_iff]
  simp
end Go.Proofs.YtoijcallajegfaaGreat.M
end
section
/- Cycles: the program and the reference answer alike. No conditions. -/
namespace Go.Proofs.YtoijcallajegfaaGreat.M
set_option linter.unusedVariables false
set_option linter.unusedSimpArgs false
open Go.RowKit Go.Proofs.YtoijcallajegfaaGreatW.PrintWords Go.Proofs.YtoijcallajegfaaGreatW.PrintLast Go.Proofs.YtoijcallajegfaaGreatW.PrintMore Go.Proofs.YtoijcallajegfaaGreat.A
def I2 (l : List (List Nat)) : List (List Int) := l.map I
theorem I2_len (l : List (List Nat)) : (I2 l).length = l.length := by simp [I2]
theorem I2_snoc (l : List (List Nat)) (c : List Nat) : I2 l ++ [I c] = I2 (l ++ [c]) := by simp [I2]
theorem cyc_len (p : List Nat) (i : Nat) : (cyc p i).length ≤ i := by
 induction i with
 | zero => simp [cyc]
 | succ i ih =>
  unfold cyc
  split
  ·omega
  ·simp
   omega
theorem orbTo_len (p : List Nat) (s m : Nat) : (orbTo p s m).length = m := by simp [orbTo]
theorem mem_flat {l : List (List Nat)} {x : Nat} : x ∈ l.flatten ↔ ∃ c ∈ l, x ∈ c := by simp
theorem cyc_next {p : List Nat} (hp : IsP p) {i m : Nat} (hi : i < p.length) (hnew : ¬ ∃ c ∈ cyc p i, i ∈ c) (hm : m < per p i) : itr p m i ∉ (cyc p i).flatten ++ orbTo p i m := by
 intro h
 rcases List.mem_append.mp h with h | h
 ·exact cyc_new hp hi hnew ((mem_orb hp hi).mpr ⟨m, rfl⟩) (mem_flat.mp h)
 ·by_cases e : m = 0
  ·subst e
   simp [orbTo] at h
  ·exact orb_close hp hi hm (by omega) h
theorem cyc_shut {p : List Nat} (hp : IsP p) {i : Nat} (hi : i < p.length) : itr p (per p i) i ∈ (cyc p i).flatten ++ orbTo p i (per p i) := by
 rw [(per_spec hp hi).1]
 exact List.mem_append.mpr (.inr (orb_self hp hi))
theorem cyc_succ_new {p : List Nat} {i : Nat} (hnew : ¬ ∃ c ∈ cyc p i, i ∈ c) : cyc p (i + 1) = cyc p i ++ [orb p i] := by
 rw [cyc, if_neg hnew]
theorem cyc_succ_old {p : List Nat} {i : Nat} (h : ∃ c ∈ cyc p i, i ∈ c) : cyc p (i + 1) = cyc p i := by
 rw [cyc, if_pos h]
theorem marks_rep (n : Nat) : Marks n (List.replicate n false) ([] : List Nat) := by
 refine ⟨by simp, fun x hx => ?_⟩
 rw [List.getD_eq_getElem?_getD, List.getElem?_replicate]
 simp [hx]
theorem impl_cycles {p : List Nat} (hp : IsP p) (h24 : p.length ≤ 24) : Ev (fun k => Z43.f k (I p)) (I2 (cycles p)) := by
 unfold Z43.f
 refine Ev.bind (impl_permOk (I p)) ?_
 have h0 : permB (I p) = true := permB_I.mpr ⟨hp, h24⟩
 have h1 : (0 : Int) ≤ (p.length : Int) := by omega
 have h2 : p.length ≤ 281474976710656 := by omega
 simp only [h0, I_len', h1, h2, if_true, Int.toNat_natCast]
 have H : ∀ (d i : Nat) (s : List Bool), i + d = p.length → Marks p.length s (cyc p i).flatten → Ev (fun k => Z43.l0 k (I p) s (I2 (cyc p i)) (p.length : Int) (i : Int)) (I2 (cycles p)) := by
  intro d
  induction d with
  | zero =>
   intro i s h hm
   obtain rfl : i = p.length := by omega
   refine ev_succ ?_
   have h1 : ¬ ((p.length : Int) < (p.length : Int)) := by omega
   simp only [Z43.l0, h1, if_false]
   exact Ev.now _
  | succ d ih =>
   intro i s h hm
   have hi : i < p.length := by omega
   have c1 : (i : Int) < (p.length : Int) := by omega
   have c2 : (0 : Int) ≤ (i : Int) := by omega
   have c3 : (i : Int) < (s.length : Int) := by have := hm.1; omega
   have h3 := w64s i (by omega)
   refine ev_succ ?_
   by_cases hs : s.getD i false = true
   ·have ho := mem_flat.mp ((hm.2 i hi).mp hs)
    simp only [Z43.l0, c1, c2, c3, rdOf_nat, hs, if_true, h3]
    have := ih (i + 1) s (by omega) (by rw [cyc_succ_old ho]; exact hm)
    rw [cyc_succ_old ho] at this
    exact this
   ·have hnew : ¬ ∃ c ∈ cyc p i, i ∈ c := fun h => hs ((hm.2 i hi).mpr (mem_flat.mpr h))
    simp only [Z43.l0, c1, c2, c3, rdOf_nat, hs, if_true, if_false]
    have G : ∀ (e m : Nat) (t : List Bool), m + e = per p i → Marks p.length t ((cyc p i).flatten ++ orbTo p i m) → Ev (fun k => Z43.l1 k (I p) t (I2 (cyc p i)) (I (orbTo p i m)) ((itr p m i : Nat) : Int) (p.length : Int) (i : Int)) (I2 (cycles p)) := by
     intro e
     induction e with
     | zero =>
      intro m t he ht
      obtain rfl : m = per p i := by omega
      refine ev_succ ?_
      have hx := itr_lt hp (per p i) hi
      have d1 : (0 : Int) ≤ ((itr p (per p i) i : Nat) : Int) := by omega
      have d2 : ((itr p (per p i) i : Nat) : Int) < (t.length : Int) := by have := ht.1; omega
      have d3 := (ht.2 _ hx).mpr (cyc_shut hp hi)
      have d4 : (I2 (cyc p i)).length < 5864062014805 := by rw [I2_len]; have := cyc_len p i; omega
      simp only [Z43.l1, d1, d2, rdOf_nat, d3, d4, if_true, h3]
      have := ih (i + 1) t (by omega) (by rw [cyc_succ_new hnew]; simpa [orb] using ht)
      rw [cyc_succ_new hnew, ← I2_snoc] at this
      exact this
     | succ e ihe =>
      intro m t he ht
      refine ev_succ ?_
      have hx := itr_lt hp m hi
      have hn := cyc_next hp hi hnew (m := m) (by omega)
      have d1 : (0 : Int) ≤ ((itr p m i : Nat) : Int) := by omega
      have d2 : ((itr p m i : Nat) : Int) < (t.length : Int) := by have := ht.1; omega
      have d3 : ¬ t.getD (itr p m i) false = true := fun k => hn ((ht.2 _ hx).mp k)
      have d4 : (I (orbTo p i m)).length < 17592186044416 := by rw [I_len, orbTo_len]; have := (per_spec hp hi).2.1; omega
      have d5 : ((itr p m i : Nat) : Int) < (p.length : Int) := by omega
      simp only [Z43.l1, d1, d2, rdOf_nat, d3, d4, d5, I_len', if_true, if_false, rdI, Int.toNat_natCast, I_snoc, orbTo_snoc]
      have := ihe (m + 1) (t.set (itr p m i) true) (by omega) (by
       have := ht.add hx
       rw [List.append_assoc, orbTo_snoc] at this
       exact this)
      exact this
    have := G (per p i) 0 s (by omega) (by simpa [orbTo] using hm)
    exact this
 exact H p.length 0 _ (by omega) (by simpa [cyc] using marks_rep p.length)
theorem spec_cycles {p : List Nat} (hp : IsP p) (h24 : p.length ≤ 24) : Ev (fun k => Z51.f k (I p)) (I2 (cycles p)) := by
 unfold Z51.f
 refine Ev.bind (spec_permOk (I p)) ?_
 have h0 : permB (I p) = true := permB_I.mpr ⟨hp, h24⟩
 have h1 : (0 : Int) ≤ (p.length : Int) := by omega
 have h2 : p.length ≤ 281474976710656 := by omega
 simp only [h0, I_len', h1, h2, if_true, Int.toNat_natCast]
 have H : ∀ (d i : Nat) (s : List Bool), i + d = p.length → Marks p.length s (cyc p i).flatten → Ev (fun k => Z51.l0 k (I p) (I2 (cyc p i)) s (p.length : Int) (i : Int)) (I2 (cycles p)) := by
  intro d
  induction d with
  | zero =>
   intro i s h hm
   obtain rfl : i = p.length := by omega
   refine ev_succ ?_
   have h1 : ¬ ((p.length : Int) < (p.length : Int)) := by omega
   simp only [Z51.l0, h1, if_false]
   exact Ev.now _
  | succ d ih =>
   intro i s h hm
   have hi : i < p.length := by omega
   have c1 : (i : Int) < (p.length : Int) := by omega
   have c2 : (0 : Int) ≤ (i : Int) := by omega
   have c3 : (i : Int) < (s.length : Int) := by have := hm.1; omega
   have h3 := w64s i (by omega)
   refine ev_succ ?_
   simp only [Z51.l0, c1, if_true]
   by_cases hs : s.getD i false = true
   ·have ho := mem_flat.mp ((hm.2 i hi).mp hs)
    refine ev_succ ?_
    have d0 : ¬ ((([] : List Int).length : Int) > 0) := by simp
    simp only [Z51.l1, c2, c3, rdOf_nat, hs, if_true, d0, if_false, h3]
    have := ih (i + 1) s (by omega) (by rw [cyc_succ_old ho]; exact hm)
    rw [cyc_succ_old ho] at this
    exact this
   ·have hnew : ¬ ∃ c ∈ cyc p i, i ∈ c := fun h => hs ((hm.2 i hi).mpr (mem_flat.mpr h))
    have G : ∀ (e m : Nat) (t : List Bool), m + e = per p i → Marks p.length t ((cyc p i).flatten ++ orbTo p i m) → Ev (fun k => Z51.l1 k (I p) (I2 (cyc p i)) t (I (orbTo p i m)) ((itr p m i : Nat) : Int) (p.length : Int) (i : Int)) (I2 (cycles p)) := by
     intro e
     induction e with
     | zero =>
      intro m t he ht
      obtain rfl : m = per p i := by omega
      refine ev_succ ?_
      have hx := itr_lt hp (per p i) hi
      have hper := per_pos p i
      have d1 : (0 : Int) ≤ ((itr p (per p i) i : Nat) : Int) := by omega
      have d2 : ((itr p (per p i) i : Nat) : Int) < (t.length : Int) := by have := ht.1; omega
      have d3 := (ht.2 _ hx).mpr (cyc_shut hp hi)
      have d4 : (I2 (cyc p i)).length < 5864062014805 := by rw [I2_len]; have := cyc_len p i; omega
      have d0 : ((I (orbTo p i (per p i))).length : Int) > 0 := by rw [I_len, orbTo_len]; omega
      simp only [Z51.l1, d1, d2, rdOf_nat, d3, d4, d0, if_true, h3]
      have := ih (i + 1) t (by omega) (by rw [cyc_succ_new hnew]; simpa [orb] using ht)
      rw [cyc_succ_new hnew, ← I2_snoc] at this
      exact this
     | succ e ihe =>
      intro m t he ht
      refine ev_succ ?_
      have hx := itr_lt hp m hi
      have hn := cyc_next hp hi hnew (m := m) (by omega)
      have d1 : (0 : Int) ≤ ((itr p m i : Nat) : Int) := by omega
      have d2 : ((itr p m i : Nat) : Int) < (t.length : Int) := by have := ht.1; omega
      have d3 : ¬ t.getD (itr p m i) false = true := fun k => hn ((ht.2 _ hx).mp k)
      have d4 : (I (orbTo p i m)).length < 17592186044416 := by rw [I_len, orbTo_len]; have := (per_spec hp hi).2.1; omega
      have d5 : ((itr p m i : Nat) : Int) < (p.length : Int) := by omega
      simp only [Z51.l1, d1, d2, rdOf_nat, d3, d4, d5, I_len', if_true, if_false, rdI, Int.toNat_natCast, I_snoc, orbTo_snoc]
      have := ihe (m + 1) (t.set (itr p m i) true) (by omega) (by
       have := ht.add hx
       rw [List.append_assoc, orbTo_snoc] at this
       exact this)
      exact this
    have := G (per p i) 0 s (by omega) (by simpa [orbTo] using hm)
    exact this
 exact H p.length 0 _ (by omega) (by simpa [cyc] using marks_rep p.length)
end Go.Proofs.YtoijcallajegfaaGreat.M
end
section
/- Marks that laws lay and look for. No conditions. -/
namespace Go.Proofs.YtoijcallajegfaaGreat.M
set_option linter.unusedVariables false
set_option linter.unusedSimpArgs false
open Go.RowKit Go.Proofs.YtoijcallajegfaaGreatW.PrintWords Go.Proofs.YtoijcallajegfaaGreatW.PrintLast Go.Proofs.YtoijcallajegfaaGreatW.PrintMore Go.Proofs.YtoijcallajegfaaGreat.A
def markL (n : Nat) (a : Int) : List Int := (List.range n).map (fun (i : Nat) => a + (i : Int))
theorem markL_len (n : Nat) (a : Int) : (markL n a).length = n := by simp [markL]
theorem rd_markL {n i : Nat} {a : Int} (h : i < n) : rd (markL n a) (i : Int) = a + (i : Int) := by
 rw [rd_get _ i (by rw [markL_len]; exact h)]
 simp [markL]
theorem w64a (a : Int) (i : Nat) (h0 : 0 ≤ a) (h : a + (i : Int) ≤ 9000000000000000000) : wrap64 (a + (i : Int) + 1) = a + ((i + 1 : Nat) : Int) := by rw [w64 (by omega) (by omega)]; omega
theorem mark_ev (l : List Int) (a : Int) (h0 : 0 ≤ a) (h : a + (l.length : Int) ≤ 9000000000000000000) : Ev (fun k => Z49.f k l a) (a + (l.length : Int), markL l.length a) := by
 unfold Z49.f
 have H : ∀ (d i : Nat) (c : List Int), i + d = l.length → c.length = l.length → (∀ j : Nat, j < i → rd c (j : Int) = a + (j : Int)) → Ev (fun k => Z49.l0 k c (a + (i : Int)) (i : Int)) (a + (l.length : Int), markL l.length a) := by
  intro d
  induction d with
  | zero =>
   intro i c hi hc hx
   refine ev_succ ?_
   have h1 : ¬ ((i : Int) < (c.length : Int)) := by omega
   have e : c = markL l.length a := ext_rd (by rw [markL_len]; exact hc) (fun j hj => by rw [hx j (by omega), rd_markL (by omega)])
   have e2 : i = l.length := by omega
   simp only [Z49.l0, h1, if_false]
   rw [e, e2]
   exact Ev.now _
  | succ d ih =>
   intro i c hi hc hx
   refine ev_succ ?_
   have h1 : (i : Int) < (c.length : Int) := by omega
   have h2 : (0 : Int) ≤ (i : Int) := by omega
   have h3 := w64s i (by omega)
   have h4 := w64a a i h0 (by omega)
   simp only [Z49.l0, h1, h2, h3, h4, if_true, Int.toNat_natCast]
   refine ih (i + 1) _ (by omega) (by rw [List.length_set]; exact hc) (fun j hj => ?_)
   rw [rd_set (by omega)]
   by_cases e : i = j
   ·subst e
    simp
   ·rw [if_neg e]
    exact hx j (by omega)
 have := H l.length 0 l (by omega) rfl (fun j hj => by omega)
 simpa using this
theorem held_ev (n : Nat) (a : Int) (h0 : 0 ≤ a) (h : a + (n : Int) ≤ 9000000000000000000) : Ev (fun k => Z48.f k (markL n a) a) (a + (n : Int)) := by
 unfold Z48.f
 have H : ∀ d i : Nat, i + d = n → Ev (fun k => Z48.l0 k (markL n a) (a + (i : Int)) (i : Int)) (a + (n : Int)) := by
  intro d
  induction d with
  | zero =>
   intro i hi
   obtain rfl : i = n := by omega
   refine ev_succ ?_
   have h1 : ¬ ((i : Int) < ((markL i a).length : Int)) := by rw [markL_len]; omega
   simp only [Z48.l0, h1, if_false]
   exact Ev.now _
  | succ d ih =>
   intro i hi
   refine ev_succ ?_
   have h1 : (i : Int) < ((markL n a).length : Int) := by rw [markL_len]; omega
   have h2 : (0 : Int) ≤ (i : Int) := by omega
   have h3 := w64s i (by omega)
   have h4 := w64a a i h0 (by omega)
   have h5 := rd_markL (n := n) (i := i) (a := a) (by omega)
   simp only [Z48.l0, h1, h2, h3, h4, h5, if_true]
   exact ih (i + 1) (by omega)
 have := H n 0 (by omega)
 simpa using this
end Go.Proofs.YtoijcallajegfaaGreat.M
end
section
/- Marks on lists of lists. No conditions. -/
namespace Go.Proofs.YtoijcallajegfaaGreat.M
set_option linter.unusedVariables false
set_option linter.unusedSimpArgs false
open Go.RowKit Go.Proofs.YtoijcallajegfaaGreatW.PrintWords Go.Proofs.YtoijcallajegfaaGreatW.PrintLast Go.Proofs.YtoijcallajegfaaGreatW.PrintMore Go.Proofs.YtoijcallajegfaaGreat.A
def totL (xs : List (List Int)) : Nat := (xs.map List.length).sum
theorem getD_mid {α : Type} (p : List α) (x : α) (xs : List α) (d : α) : (p ++ x :: xs).getD p.length d = x := by
 rw [List.getD_eq_getElem?_getD, List.getElem?_append_right (Nat.le_refl _)]
 simp
theorem set_mid {α : Type} (p : List α) (x y : α) (xs : List α) : (p ++ x :: xs).set p.length y = p ++ y :: xs := by
 rw [List.set_append_right _ _ (Nat.le_refl _)]
 simp
theorem snoc_app {α : Type} (p : List α) (x : α) (xs : List α) : p ++ x :: xs = (p ++ [x]) ++ xs := by simp
end Go.Proofs.YtoijcallajegfaaGreat.M
end
section
/- Rows: the program and the reference answer alike. No conditions. -/
namespace Go.Proofs.YtoijcallajegfaaGreat.M
set_option linter.unusedVariables false
set_option linter.unusedSimpArgs false
open Go.RowKit Go.Proofs.YtoijcallajegfaaGreatW.PrintWords Go.Proofs.YtoijcallajegfaaGreatW.PrintLast Go.Proofs.YtoijcallajegfaaGreatW.PrintMore Go.Proofs.YtoijcallajegfaaGreat.A
theorem cycles_len {p : List Nat} (h24 : p.length ≤ 24) : (cycles p).length ≤ 24 := Nat.le_trans (cyc_len p p.length) h24
theorem cycle_len {p : List Nat} (hp : IsP p) (h24 : p.length ≤ 24) : ∀ c ∈ cycles p, c.length ≤ 24 := by
 intro c hc
 obtain ⟨s, hs, rfl⟩ := cyc_form p p.length c hc
 unfold orb
 rw [orbTo_len]
 have := (per_spec hp hs).2.1
 omega
structure SmallSS (l : List (List Int)) : Prop where
 n : l.length ≤ 24
 m : ∀ x ∈ l, x.length ≤ 24
 t : totL l ≤ 1000
end Go.Proofs.YtoijcallajegfaaGreat.M
end
section
/- One round about a corner; first places in lists. No conditions. -/
namespace Go.Proofs.YtoijcallajegfaaGreat.M
set_option linter.unusedVariables false
set_option linter.unusedSimpArgs false
open Go.RowKit Go.Proofs.YtoijcallajegfaaGreatW.PrintWords Go.Proofs.YtoijcallajegfaaGreatW.PrintLast Go.Proofs.YtoijcallajegfaaGreatW.PrintMore Go.Proofs.YtoijcallajegfaaGreat.A
theorem impl_then {p q : List Nat} (hp : IsP p) (hq : IsP q) (hl : p.length = q.length) (h24 : p.length ≤ 24) : Ev (fun k => Z45.f k (I p) (I q)) (I (thn p q)) := by
 unfold Z45.f
 refine Ev.bind (impl_permOk (I p)) ?_
 have e1 : permB (I p) = true := permB_I.mpr ⟨hp, h24⟩
 have e2 : permB (I q) = true := permB_I.mpr ⟨hq, by omega⟩
 simp only [e1, if_true]
 refine Ev.bind (impl_permOk (I q)) ?_
 have e3 : ((p.length : Int) != (q.length : Int)) = false := by simp [hl]
 simp only [e2, if_true, I_len', e3]
 refine ev_succ ?_
 have h1 : (0 : Int) ≤ (p.length : Int) := by omega
 have h2 : p.length ≤ 35184372088832 := by omega
 simp only [Z45.j0, Bool.false_eq_true, if_false, I_len', h1, h2, if_true, Int.toNat_natCast]
 have H : ∀ (d i : Nat) (c : List Nat), i + d = p.length → c.length = p.length → (∀ j, j < i → g c j = g q (g p j)) → Ev (fun k => Z45.l0 k (I q) (I c) (I p) (p.length : Int) (i : Int)) (I (thn p q)) := by
  intro d
  induction d with
  | zero =>
   intro i c h hc hx
   refine ev_succ ?_
   have h1 : ¬ ((i : Int) < (p.length : Int)) := by omega
   have e : thn p q = c := by
    refine (eq_tab hc (fun j hj => hx j (by omega))).symm
   simp only [Z45.l0, h1, if_false]
   rw [e]
   exact Ev.now _
  | succ d ih =>
   intro i c h hc hx
   refine ev_succ ?_
   have hi : i < p.length := by omega
   have gp := g_lt hp hi
   have c1 : (i : Int) < (p.length : Int) := by omega
   have c2 : (0 : Int) ≤ (i : Int) := by omega
   have c3 : (0 : Int) ≤ ((g p i : Nat) : Int) := by omega
   have c4 : ((g p i : Nat) : Int) < (q.length : Int) := by omega
   have c5 : (i : Int) < (c.length : Int) := by omega
   have h3 := w64s i (by omega)
   simp only [Z45.l0, c1, c2, c3, c4, c5, h3, rdI, I_len', I_set, if_true, Int.toNat_natCast]
   refine ih (i + 1) _ (by omega) (by rw [List.length_set]; exact hc) (fun j hj => ?_)
   rw [g_set (by omega)]
   by_cases e : i = j
   ·subst e
    simp
   ·rw [if_neg e]
    exact hx j (by omega)
 have := H p.length 0 (List.replicate p.length 0) (by omega) (by simp) (fun j hj => by omega)
 rw [I_rep] at this
 exact this
theorem spec_then2 {p q : List Nat} (hp : ∀ i, i < p.length → g p i < q.length) (h : p.length ≤ 1000) : Ev (fun k => Z58.f k (I p) (I q)) (I (thn p q)) := by
 unfold Z58.f
 have H : ∀ (d i : Nat), i + d = p.length → Ev (fun k => Z58.l0 k (I q) (I (tab i (fun i => g q (g p i)))) (I p) (p.length : Int) (i : Int)) (I (thn p q)) := by
  intro d
  induction d with
  | zero =>
   intro i h
   obtain rfl : i = p.length := by omega
   refine ev_succ ?_
   have h1 : ¬ ((p.length : Int) < (p.length : Int)) := by omega
   simp only [Z58.l0, h1, if_false]
   exact Ev.now _
  | succ d ih =>
   intro i h
   refine ev_succ ?_
   have hi : i < p.length := by omega
   have gp := hp i hi
   have c1 : (i : Int) < (p.length : Int) := by omega
   have c2 : (0 : Int) ≤ (i : Int) := by omega
   have c3 : (0 : Int) ≤ ((g p i : Nat) : Int) := by omega
   have c4 : ((g p i : Nat) : Int) < (q.length : Int) := by omega
   have c5 : (I (tab i (fun i => g q (g p i)))).length < 17592186044416 := by rw [I_len, tab_len]; omega
   have h3 := w64s i (by omega)
   have e : tab i (fun i => g q (g p i)) ++ [g q (g p i)] = tab (i + 1) (fun i => g q (g p i)) := by unfold tab; rw [List.range_succ]; simp
   simp only [Z58.l0, c1, c2, c3, c4, c5, h3, rdI, I_len', I_snoc, if_true, e]
   exact ih (i + 1) (by omega)
 simp only [I_len']
 exact H p.length 0 (by omega)
def arnd (r u : List Nat) : List Nat := thn (thn r u) (thn (inv r) (inv u))
theorem arnd_len (r u : List Nat) : (arnd r u).length = r.length := by unfold arnd; rw [thn_len, thn_len]
theorem isP_arnd {r u : List Nat} (hs : Sf r u) : IsP (arnd r u) :=
 isP_thn (isP_thn hs.pr hs.pu hs.eq.symm) (isP_thn (isP_inv hs.pr) (isP_inv hs.pu) (by rw [inv_len, inv_len, hs.eq])) (by rw [thn_len, thn_len, inv_len])
theorem spec_around {r u : List Nat} (hs : Sf r u) : Ev (fun k => Z38.f k (I r) (I u)) (I (arnd r u)) := by
 have hle := hs.le
 have heq := hs.eq
 unfold Z38.f
 refine Ev.bind (spec_then2 (fun i hi => by have := g_lt hs.pr hi; omega) (by omega)) ?_
 refine Ev.bind (spec_inv hs.pr hs.le) (Ev.bind (spec_inv hs.pu (by omega)) ?_)
 refine Ev.bind (spec_then2 (fun i hi => by have := g_lt (isP_inv hs.pr) hi; rw [inv_len] at this hi ⊢; omega) (by rw [inv_len]; omega)) ?_
 refine Ev.bind (spec_then2 (fun i hi => by have := g_lt (isP_thn hs.pr hs.pu heq.symm) hi; rw [thn_len] at this hi ⊢; rw [inv_len]; omega) (by rw [thn_len]; omega)) ?_
 exact Ev.now _
theorem impl_around {r u : List Nat} (hs : Sf r u) : Ev (fun k => Z42.f k (I r) (I u)) (I (arnd r u)) := by
 have hle := hs.le
 have heq := hs.eq
 unfold Z42.f
 refine Ev.bind (impl_surf _ _) ?_
 rw [surfB_I.mpr hs]
 simp only [if_true]
 refine Ev.bind (impl_then hs.pr hs.pu heq.symm hs.le) ?_
 refine Ev.bind (impl_inv hs.pr hs.le) (Ev.bind (impl_inv hs.pu (by omega)) ?_)
 refine Ev.bind (impl_then (isP_inv hs.pr) (isP_inv hs.pu) (by rw [inv_len, inv_len, heq]) (by rw [inv_len]; omega)) ?_
 refine Ev.bind (impl_then (isP_thn hs.pr hs.pu heq.symm) (isP_thn (isP_inv hs.pr) (isP_inv hs.pu) (by rw [inv_len, inv_len, heq])) (by rw [thn_len, thn_len, inv_len]) (by rw [thn_len]; omega)) ?_
 exact Ev.now _
theorem rdL_mid (a : List (List Nat)) (c : List Nat) (b : List (List Nat)) : rd_L1 (I2 (a ++ c :: b)) (a.length : Int) = I c := by
 unfold rd_L1 I2
 rw [Int.toNat_natCast, List.map_append, List.map_cons, ← List.length_map (f := I)]
 exact getD_mid _ _ _ _
theorem rdL_I2 (l : List (List Nat)) (i : Nat) (h : i < l.length) : rd_L1 (I2 l) (i : Int) = I (l[i]) := by
 unfold rd_L1 I2
 rw [Int.toNat_natCast, List.getD_eq_getElem?_getD, List.getElem?_map, List.getElem?_eq_getElem h]
 rfl
end Go.Proofs.YtoijcallajegfaaGreat.M
end
section
/- Words of letters: the program and the reference act alike. No conditions. -/
namespace Go.Proofs.YtoijcallajegfaaGreat.M
set_option linter.unusedVariables false
set_option linter.unusedSimpArgs false
open Go.RowKit Go.Proofs.YtoijcallajegfaaGreatW.PrintWords Go.Proofs.YtoijcallajegfaaGreatW.PrintLast Go.Proofs.YtoijcallajegfaaGreatW.PrintMore Go.Proofs.YtoijcallajegfaaGreat.A
def lt (c : Int) (s : List Nat × List Nat) : List Nat × List Nat := if c = 84 then (s.1, thn (inv s.1) s.2) else if c = 116 then (s.1, thn s.1 s.2) else if c = 83 then (inv s.2, s.1) else (s.2, inv s.1)
end Go.Proofs.YtoijcallajegfaaGreat.M
end
section
/- Surfaces that are alike; surfaces that a word keeps. No conditions. -/
namespace Go.Proofs.YtoijcallajegfaaGreat.M
set_option linter.unusedVariables false
set_option linter.unusedSimpArgs false
open Go.RowKit Go.Proofs.YtoijcallajegfaaGreatW.PrintWords Go.Proofs.YtoijcallajegfaaGreatW.PrintLast Go.Proofs.YtoijcallajegfaaGreatW.PrintMore Go.Proofs.YtoijcallajegfaaGreat.A
theorem spec_same (a b : List Nat × List Nat) (h1 : a.1.length ≤ 1000000) (h2 : a.2.length ≤ 1000000) : Ev (fun k => Z17.f k (I a.1) (I a.2) (I b.1) (I b.2)) (decide (a = b)) := by
 unfold Z17.f
 refine Ev.bind (sameList_nat a.1 b.1 (by omega)) ?_
 by_cases h : a.1 = b.1
 ·have e : decide (a = b) = decide (a.2 = b.2) := by
   rw [decide_eq_decide, Prod.ext_iff]
   simp [h]
  rw [e]
  simp only [h, decide_true, if_true]
  exact Ev.bind (sameList_nat a.2 b.2 (by omega)) (Ev.now _)
 ·have e : decide (a = b) = false := by
   rw [decide_eq_false_iff_not]
   intro e
   exact h (by rw [e])
  rw [e]
  simp only [h, decide_false, Bool.false_eq_true, if_false]
  exact Ev.now _
end Go.Proofs.YtoijcallajegfaaGreat.M
end
section
/- All surfaces with few squares: the program and the reference list them alike. No conditions. -/
namespace Go.Proofs.YtoijcallajegfaaGreat.M
set_option linter.unusedVariables false
set_option linter.unusedSimpArgs false
open Go.RowKit Go.Proofs.YtoijcallajegfaaGreatW.PrintWords Go.Proofs.YtoijcallajegfaaGreatW.PrintLast Go.Proofs.YtoijcallajegfaaGreatW.PrintMore Go.Proofs.YtoijcallajegfaaGreat.A
def permN (n : Nat) : List (List Nat) := (List.range n).foldl (fun out _ => (out.map (fun p => ((List.range n).filter (fun x => decide (x ∉ p))).map (fun x => p ++ [x]))).flatten) [[]]
theorem allPerms_tab : Z46.f 500 ((1 : Nat) : Int) = some (I2 (permN 1)) ∧ Z46.f 500 ((2 : Nat) : Int) = some (I2 (permN 2)) ∧ Z46.f 500 ((3 : Nat) : Int) = some (I2 (permN 3)) ∧ Z46.f 500 ((4 : Nat) : Int) = some (I2 (permN 4)) := by decide +kernel
theorem l10Perms_tab : Z56.f 500 ((1 : Nat) : Int) = some (I2 (permN 1)) ∧ Z56.f 500 ((2 : Nat) : Int) = some (I2 (permN 2)) ∧ Z56.f 500 ((3 : Nat) : Int) = some (I2 (permN 3)) ∧ Z56.f 500 ((4 : Nat) : Int) = some (I2 (permN 4)) := by decide +kernel
theorem four_cases {n : Nat} (h1 : 1 ≤ n) (h4 : n ≤ 4) : n = 1 ∨ n = 2 ∨ n = 3 ∨ n = 4 := by omega
theorem allPerms_ev {n : Nat} (h1 : 1 ≤ n) (h4 : n ≤ 4) : Ev (fun k => Z46.f k (n : Int)) (I2 (permN n)) := by
 rcases four_cases h1 h4 with rfl | rfl | rfl | rfl
 ·exact Ev.of (Z46.mono _) allPerms_tab.1
 ·exact Ev.of (Z46.mono _) allPerms_tab.2.1
 ·exact Ev.of (Z46.mono _) allPerms_tab.2.2.1
 ·exact Ev.of (Z46.mono _) allPerms_tab.2.2.2
theorem l10Perms_ev {n : Nat} (h1 : 1 ≤ n) (h4 : n ≤ 4) : Ev (fun k => Z56.f k (n : Int)) (I2 (permN n)) := by
 rcases four_cases h1 h4 with rfl | rfl | rfl | rfl
 ·exact Ev.of (Z56.mono _) l10Perms_tab.1
 ·exact Ev.of (Z56.mono _) l10Perms_tab.2.1
 ·exact Ev.of (Z56.mono _) l10Perms_tab.2.2.1
 ·exact Ev.of (Z56.mono _) l10Perms_tab.2.2.2
theorem permN_tab : ∀ n : Fin 5, 1 ≤ n.val → (permN n.val).length ≤ 24 ∧ ∀ p ∈ permN n.val, p.length = n.val := by decide +kernel
theorem permN_len {n : Nat} (h1 : 1 ≤ n) (h4 : n ≤ 4) : (permN n).length ≤ 24 ∧ ∀ p ∈ permN n, p.length = n := permN_tab ⟨n, by omega⟩ h1
def LS (l : List (List Nat × List Nat)) : List S38 := l.map ofN
theorem LS_len (l : List (List Nat × List Nat)) : (LS l).length = l.length := by simp [LS]
theorem LS_app (a b : List (List Nat × List Nat)) : LS (a ++ b) = LS a ++ LS b := by simp [LS]
theorem LS_mid (p : List (List Nat × List Nat)) (x : List Nat × List Nat) (xs : List (List Nat × List Nat)) : rd_T38 (LS (p ++ x :: xs)) (p.length : Int) = ⟨I x.1, I x.2⟩ := by
 unfold rd_T38
 rw [Int.toNat_natCast, LS_app]
 have := getD_mid (LS p) (ofN x) (LS xs) z38
 rw [LS_len] at this
 exact this
theorem insert_ev {n : Nat} (hn : n ≤ 1000000) {s : List Nat × List Nat} (hs : s.1.length = n ∧ s.2.length = n) (l : List (List Nat × List Nat)) (hl : ∀ x ∈ l, x.1.length = n ∧ x.2.length = n) (hlen : l.length ≤ 1000000) : Ev (fun k => Z39.f k (LS l) (I s.1) (I s.2)) (LS (insS l s)) := by
 unfold Z39.f
 have D : ∀ (rest p o : List (List Nat × List Nat)), p.length + rest.length = l.length → p ++ rest = l → o.length ≤ p.length + 1 → Ev (fun k => Z39.l0 k (LS o) true (LS l) ((LS l).length : Int) (p.length : Int) (I s.1) (I s.2)) (LS (o ++ rest)) := by
  intro rest
  induction rest with
  | nil =>
   intro p o hp e ho
   refine ev_succ ?_
   have h1 : ¬ ((p.length : Int) < ((LS l).length : Int)) := by rw [LS_len]; simp at hp; omega
   simp only [Z39.l0, h1, if_false, if_true, List.append_nil]
   exact Ev.now _
  | cons x rest ih =>
   intro p o hp e ho
   rw [List.length_cons] at hp
   refine ev_succ ?_
   have h1 : ((p.length : Int) < ((LS l).length : Int)) := by rw [LS_len]; omega
   have h2 : (0 : Int) ≤ (p.length : Int) := by omega
   have h3 := w64s p.length (by omega)
   have h4 : rd_T38 (LS l) (p.length : Int) = ⟨I x.1, I x.2⟩ := by rw [← e]; exact LS_mid p x rest
   have h5 : (LS o).length < 2932031007402 := by rw [LS_len]; omega
   have hx := hl x (by rw [← e]; simp)
   have e2 : LS o ++ [(⟨I x.1, I x.2⟩ : S38)] = LS (o ++ [x]) := by rw [LS_app]; rfl
   have key := ih (p ++ [x]) (o ++ [x]) (by simp; omega) (by rw [← e]; simp) (by simp; omega)
   have e3 : ((p ++ [x]).length : Int) = ((p.length + 1 : Nat) : Int) := by simp
   rw [e3] at key
   have e4 : o ++ [x] ++ rest = o ++ x :: rest := by simp
   rw [e4] at key
   simp only [Z39.l0, h1, h2, h4, if_true]
   refine Ev.bind (spec_same x s (by omega) (by omega)) ?_
   by_cases hxs : x = s
   ·simp only [hxs, decide_true, if_true, h5, h3]
    rw [hxs] at e2 key
    rw [e2]
    exact key
   ·simp only [hxs, decide_false, Bool.false_eq_true, if_false, if_true, h5, h3]
    rw [e2]
    exact key
 have H : ∀ (rest p : List (List Nat × List Nat)), p.length + rest.length = l.length → p ++ rest = l → Ev (fun k => Z39.l0 k (LS p) false (LS l) ((LS l).length : Int) (p.length : Int) (I s.1) (I s.2)) (LS (p ++ insS rest s)) := by
  intro rest
  induction rest with
  | nil =>
   intro p hp e
   refine ev_succ ?_
   have h1 : ¬ ((p.length : Int) < ((LS l).length : Int)) := by rw [LS_len]; simp at hp; omega
   have h5 : (LS p).length < 2932031007402 := by rw [LS_len]; simp at hp; omega
   simp only [Z39.l0, h1, if_false, Bool.false_eq_true, h5, if_true]
   have e2 : LS p ++ [(⟨I s.1, I s.2⟩ : S38)] = LS (p ++ insS [] s) := by rw [LS_app]; rfl
   rw [e2]
   exact Ev.now _
  | cons x rest ih =>
   intro p hp e
   rw [List.length_cons] at hp
   refine ev_succ ?_
   have h1 : ((p.length : Int) < ((LS l).length : Int)) := by rw [LS_len]; omega
   have h2 : (0 : Int) ≤ (p.length : Int) := by omega
   have h3 := w64s p.length (by omega)
   have h4 : rd_T38 (LS l) (p.length : Int) = ⟨I x.1, I x.2⟩ := by rw [← e]; exact LS_mid p x rest
   have h5 : (LS p).length < 2932031007402 := by rw [LS_len]; omega
   have hx := hl x (by rw [← e]; simp)
   have e2 : LS p ++ [(⟨I x.1, I x.2⟩ : S38)] = LS (p ++ [x]) := by rw [LS_app]; rfl
   have e3 : ((p ++ [x]).length : Int) = ((p.length + 1 : Nat) : Int) := by simp
   have d1 := D rest (p ++ [x]) (p ++ [x]) (by simp; omega) (by rw [← e]; simp) (by simp)
   rw [e3] at d1
   simp only [Z39.l0, h1, h2, h4, if_true]
   refine Ev.bind (spec_same x s (by omega) (by omega)) ?_
   by_cases hxs : x = s
   ·have e4 : p ++ insS (x :: rest) s = p ++ [x] ++ rest := by
     unfold insS
     rw [if_pos hxs]
     simp
    rw [e4]
    simp only [hxs, decide_true, if_true, h5, h3]
    rw [hxs] at d1 e2
    rw [e2]
    exact d1
   ·simp only [hxs, decide_false, Bool.false_eq_true, if_false]
    refine Ev.bind (spec_before s x (by omega) (by omega) (by omega) (by omega)) ?_
    by_cases hb : cmpS s x < 0
    ·have h6 : (LS p ++ [(⟨I s.1, I s.2⟩ : S38)]).length < 2932031007402 := by rw [List.length_append, LS_len]; simp; omega
     simp only [hb, decide_true, if_true, h5, Option.bind_some, h6, h3]
     have e4 : p ++ insS (x :: rest) s = p ++ [s] ++ [x] ++ rest := by
      unfold insS
      rw [if_neg hxs, if_pos hb]
      simp
     have e5 : LS p ++ [(⟨I s.1, I s.2⟩ : S38)] ++ [⟨I x.1, I x.2⟩] = LS (p ++ [s] ++ [x]) := by rw [LS_app, LS_app]; rfl
     have d2 := D rest (p ++ [x]) (p ++ [s] ++ [x]) (by simp; omega) (by rw [← e]; simp) (by simp)
     rw [e3] at d2
     rw [e4, e5]
     exact d2
    ·simp only [hb, decide_false, Bool.false_eq_true, if_false, h5, if_true, h3]
     have key := ih (p ++ [x]) (by simp; omega) (by rw [← e]; simp)
     rw [e3] at key
     have e4 : p ++ insS (x :: rest) s = p ++ [x] ++ insS rest s := by
      conv => lhs; unfold insS
      rw [if_neg hxs, if_neg hb]
      simp
     rw [e4, e2]
     exact key
 exact H l [] (by simp) rfl
def pr (p q : List Nat) : List (List Nat × List Nat) := if surfB (I p) (I q) = true then [canS p q] else []
theorem pr_len (p q : List Nat) : (pr p q).length ≤ 1 := by unfold pr; split <;> simp
theorem pr_mem {p q : List Nat} {x : List Nat × List Nat} (h : x ∈ pr p q) : x.1.length = p.length ∧ x.2.length = q.length := by
 unfold pr at h
 split at h
 ·rw [List.mem_singleton.1 h]; exact canK_len _
 ·cases h
theorem pr_no {p q : List Nat} (h : ¬ surfB (I p) (I q) = true) : pr p q = [] := by unfold pr; rw [if_neg h]
theorem pr_yes {p q : List Nat} (h : surfB (I p) (I q) = true) : pr p q = [canS p q] := by unfold pr; rw [if_pos h]
def prs (P : List (List Nat)) (p : List Nat) : List (List Nat × List Nat) := P.flatMap (pr p)
def pairs (P R : List (List Nat)) : List (List Nat × List Nat) := R.flatMap (prs P)
theorem flatM_len {α β : Type} (f : α → List β) (n : Nat) (h : ∀ x, (f x).length ≤ n) : ∀ l : List α, (l.flatMap f).length ≤ l.length * n
 | [] => by simp
 | x :: l => by
  have := flatM_len f n h l
  have := h x
  rw [List.flatMap_cons, List.length_append, List.length_cons, Nat.succ_mul]
  omega
theorem prs_len (P : List (List Nat)) (p : List Nat) : (prs P p).length ≤ P.length := by
 have := flatM_len (pr p) 1 (pr_len p) P
 unfold prs; omega
theorem LS_ok {n : Nat} (hn : n ≤ 1000000) {l : List (List Nat × List Nat)} (h : ∀ x ∈ l, x.1.length = n ∧ x.2.length = n) : ∀ x ∈ LS l, okS x := by
 intro x hx
 obtain ⟨y, hy, rfl⟩ := List.mem_map.1 hx
 have := h y hy
 exact ⟨I_NN (by omega), I_NN (by omega)⟩
theorem LS_toN (l : List (List Nat × List Nat)) : (LS l).map toN = l := by
 unfold LS
 rw [List.map_map]
 conv => rhs; rw [← List.map_id l]
 exact List.map_congr_left (fun x _ => toN_ofN x)
theorem sortSurf_f {n : Nat} (hn : n ≤ 1000000) {l : List (List Nat × List Nat)} (h : ∀ x ∈ l, x.1.length = n ∧ x.2.length = n) (hl : l.length ≤ 1000000) : Z11.f (LS l) = some (LS (insAll [] l)) := by
 unfold Z11.f
 rw [if_pos ⟨LS_ok hn h, by rw [LS_len]; omega⟩, LS_toN, sortS_ins]
 rfl
theorem rdL_P {P pre rest : List (List Nat)} {p : List Nat} (e : pre ++ p :: rest = P) : rd_L1 (I2 P) (pre.length : Int) = I p := by rw [← e]; exact rdL_mid pre p rest
def surfN (n : Nat) : List (List Nat × List Nat) := insAll [] (pairs (permN n) (permN n))
theorem impl_with {n : Nat} (h1 : 1 ≤ n) (h4 : n ≤ 4) : Ev (fun k => Z10.f k (n : Int)) (LS (surfN n)) := by
 obtain ⟨hP, hQ⟩ := permN_len h1 h4
 have hA := allPerms_ev h1 h4
 unfold Z10.f
 have c1 : ¬ ((n : Int) < 1) := by omega
 have c2 : ¬ ((n : Int) > 4) := by omega
 simp only [c1, c2, if_false, decide_false]
 refine ev_succ ?_
 simp only [Z10.j0, Bool.false_eq_true, if_false]
 refine Ev.bind hA ?_
 unfold surfN
 generalize permN n = P at hP hQ hA
 have H1 : ∀ (p : List Nat) (x20 : Int) (R : List S38) (rest pre : List (List Nat)) (acc : List (List Nat × List Nat)), pre ++ rest = P → acc.length + rest.length ≤ 100000 →
   Ev (fun k => Z10.l0 k (n : Int) (LS (acc ++ rest.flatMap (pr p))) (I2 P) ((I2 P).length : Int) (wrap64 (x20 + 1))) R → Ev (fun k => Z10.l1 k (n : Int) (LS acc) (I p) (I2 P) ((I2 P).length : Int) x20 (I2 P) ((I2 P).length : Int) (pre.length : Int)) R := by
  intro p x20 R rest
  induction rest with
  | nil =>
   intro pre acc e hl hR
   refine ev_succ ?_
   rw [List.append_nil] at e
   have d1 : ¬ ((pre.length : Int) < ((I2 P).length : Int)) := by rw [I2_len, e]; omega
   simp only [Z10.l1, d1, if_false]
   simpa using hR
  | cons q rest ih =>
   intro pre acc e hl hR
   rw [List.length_cons] at hl
   have hlen : P.length = pre.length + (rest.length + 1) := by rw [← e]; simp
   refine ev_succ ?_
   have d1 : ((pre.length : Int) < ((I2 P).length : Int)) := by rw [I2_len]; omega
   have d2 : (0 : Int) ≤ (pre.length : Int) := by omega
   have d3 := w64s pre.length (by omega)
   have d4 := rdL_P e
   have d5 : (LS acc).length < 2932031007402 := by rw [LS_len]; omega
   have e3 : ((pre ++ [q]).length : Int) = ((pre.length + 1 : Nat) : Int) := by simp
   have hpl := pr_len p q
   have key := ih (pre ++ [q]) (acc ++ pr p q) (by rw [← e]; simp) (by rw [List.length_append]; omega) (by rw [List.append_assoc, ← List.flatMap_cons]; exact hR)
   rw [e3] at key
   simp only [Z10.l1, d1, d2, d4, if_true]
   by_cases hb : surfB (I p) (I q) = true
   ·refine Ev.bind (impl_canon (surfB_I.1 hb)) ?_
    simp only [d5, if_true, d3]
    rw [pr_yes hb, LS_app] at key
    exact key
   ·refine Ev.bind (impl_canon_no hb) ?_
    simp only [Bool.false_eq_true, if_false, d3]
    rw [pr_no hb, List.append_nil] at key
    exact key
 have H0 : ∀ (rest pre : List (List Nat)) (acc : List (List Nat × List Nat)), pre ++ rest = P → acc.length + rest.length * 24 ≤ 10000 → (∀ x ∈ acc, x.1.length = n ∧ x.2.length = n) →
   Ev (fun k => Z10.l0 k (n : Int) (LS acc) (I2 P) ((I2 P).length : Int) (pre.length : Int)) (LS (insAll [] (acc ++ pairs P rest))) := by
  intro rest
  induction rest with
  | nil =>
   intro pre acc e hl hx
   refine ev_succ ?_
   rw [List.append_nil] at e
   have d1 : ¬ ((pre.length : Int) < ((I2 P).length : Int)) := by rw [I2_len, e]; omega
   have d2 := sortSurf_f (by omega) hx (by simp at hl; omega)
   simp only [Z10.l0, d1, if_false, d2, Option.bind_some]
   have e2 : acc ++ pairs P [] = acc := by simp [pairs]
   rw [e2]
   exact Ev.now _
  | cons p rest ih =>
   intro pre acc e hl hx
   rw [List.length_cons] at hl
   have hlen : P.length = pre.length + (rest.length + 1) := by rw [← e]; simp
   refine ev_succ ?_
   have d1 : ((pre.length : Int) < ((I2 P).length : Int)) := by rw [I2_len]; omega
   have d2 : (0 : Int) ≤ (pre.length : Int) := by omega
   have d3 := w64s pre.length (by omega)
   have d4 := rdL_P e
   simp only [Z10.l0, d1, d2, d4, if_true]
   refine Ev.bind hA ?_
   have e3 : ((pre ++ [p]).length : Int) = ((pre.length + 1 : Nat) : Int) := by simp
   have hpl := prs_len P p
   have hp : p.length = n := hQ p (by rw [← e]; simp)
   have hx2 : ∀ x ∈ acc ++ prs P p, x.1.length = n ∧ x.2.length = n := by
    intro x hm
    rcases List.mem_append.1 hm with hm | hm
    ·exact hx x hm
    ·obtain ⟨q, hq, hxq⟩ := List.mem_flatMap.1 hm
     obtain ⟨a1, a2⟩ := pr_mem hxq
     exact ⟨a1.trans hp, a2.trans (hQ q hq)⟩
   have key := ih (pre ++ [p]) (acc ++ prs P p) (by rw [← e]; simp) (by rw [List.length_append]; omega) hx2
   rw [e3, List.append_assoc] at key
   refine H1 p (pre.length : Int) _ P [] acc (by simp) (by omega) ?_
   rw [d3]
   exact key
 have := H0 P [] [] (by simp) (by simp; omega) (by simp)
 rw [List.nil_append] at this
 exact this
theorem insAll_app (l a b : List (List Nat × List Nat)) : insAll l (a ++ b) = insAll (insAll l a) b := List.foldl_append
theorem insS_len (l : List (List Nat × List Nat)) (s : List Nat × List Nat) : (insS l s).length ≤ l.length + 1 := by
 induction l with
 | nil => simp [insS]
 | cons x l ih =>
  unfold insS
  split
  ·simp
  ·split
   ·simp
   ·simpa using ih
theorem insAll_len : ∀ (ss l : List (List Nat × List Nat)), (insAll l ss).length ≤ l.length + ss.length
 | [], l => by simp [insAll]
 | s :: ss, l => by
  have := insAll_len ss (insS l s)
  have := insS_len l s
  show (insAll (insS l s) ss).length ≤ _
  rw [List.length_cons]
  omega
theorem spec_in14 (n : Int) : Z66.f n 1 4 = some (decide (1 ≤ n) && decide (n ≤ 4)) := by
 unfold Z66.f
 by_cases h1 : 1 ≤ n <;> by_cases h2 : n ≤ 4 <;> simp [h1, h2]
theorem spec_with {n : Nat} (h1 : 1 ≤ n) (h4 : n ≤ 4) : Ev (fun k => Z15.f k (n : Int)) (LS (surfN n)) := by
 obtain ⟨hP, hQ⟩ := permN_len h1 h4
 have hA := l10Perms_ev h1 h4
 unfold Z15.f
 have c0 : (decide ((1 : Int) ≤ (n : Int)) && decide ((n : Int) ≤ 4)) = true := by
  rw [Bool.and_eq_true]
  exact ⟨decide_eq_true (by omega), decide_eq_true (by omega)⟩
 rw [spec_in14, c0]
 simp only [Option.bind_some, if_true]
 refine Ev.bind hA ?_
 unfold surfN
 generalize permN n = P at hP hQ hA
 have H1 : ∀ (p : List Nat), p.length = n → ∀ (x18 : Int) (R : List S38) (rest pre : List (List Nat)) (acc : List (List Nat × List Nat)), pre ++ rest = P → acc.length + rest.length ≤ 100000 → (∀ x ∈ acc, x.1.length = n ∧ x.2.length = n) →
   Ev (fun k => Z15.l0 k (LS (insAll acc (rest.flatMap (pr p)))) (I2 P) (I2 P) ((I2 P).length : Int) (wrap64 (x18 + 1))) R → Ev (fun k => Z15.l1 k (LS acc) (I2 P) (I p) (I2 P) ((I2 P).length : Int) x18 (I2 P) ((I2 P).length : Int) (pre.length : Int)) R := by
  intro p hp x18 R rest
  induction rest with
  | nil =>
   intro pre acc e hl hx hR
   refine ev_succ ?_
   rw [List.append_nil] at e
   have d1 : ¬ ((pre.length : Int) < ((I2 P).length : Int)) := by rw [I2_len, e]; omega
   simp only [Z15.l1, d1, if_false]
   exact hR
  | cons q rest ih =>
   intro pre acc e hl hx hR
   rw [List.length_cons] at hl
   have hlen : P.length = pre.length + (rest.length + 1) := by rw [← e]; simp
   have hq : q.length = n := hQ q (by rw [← e]; simp)
   refine ev_succ ?_
   have d1 : ((pre.length : Int) < ((I2 P).length : Int)) := by rw [I2_len]; omega
   have d2 : (0 : Int) ≤ (pre.length : Int) := by omega
   have d3 := w64s pre.length (by omega)
   have d4 := rdL_P e
   have e3 : ((pre ++ [q]).length : Int) = ((pre.length + 1 : Nat) : Int) := by simp
   have hpl := pr_len p q
   have hil := insAll_len (pr p q) acc
   have hx2 : ∀ x ∈ insAll acc (pr p q), x.1.length = n ∧ x.2.length = n := by
    intro x hm
    rcases (mem_insAll _ _ _).1 hm with hm | hm
    ·exact hx x hm
    ·obtain ⟨a1, a2⟩ := pr_mem hm
     exact ⟨a1.trans hp, a2.trans hq⟩
   have key := ih (pre ++ [q]) (insAll acc (pr p q)) (by rw [← e]; simp) (by omega) hx2 (by rw [← insAll_app, ← List.flatMap_cons]; exact hR)
   rw [e3] at key
   simp only [Z15.l1, d1, d2, d4, if_true]
   refine Ev.bind (spec_surf _ _) ?_
   by_cases hb : surfB (I p) (I q) = true
   ·simp only [hb, if_true]
    refine Ev.bind (spec_canon (surfB_I.1 hb)) ?_
    have hc : (canS p q).1.length = n ∧ (canS p q).2.length = n := by
     obtain ⟨a1, a2⟩ := canK_len (r := p) (u := q) (p.length - 1)
     exact ⟨a1.trans hp, a2.trans hq⟩
    refine Ev.bind (insert_ev (by omega) hc acc hx (by omega)) ?_
    rw [pr_yes hb] at key
    simp only [d3]
    exact key
   ·simp only [hb, Bool.false_eq_true, if_false, d3]
    rw [pr_no hb] at key
    exact key
 have H0 : ∀ (rest pre : List (List Nat)) (acc : List (List Nat × List Nat)), pre ++ rest = P → acc.length + rest.length * 24 ≤ 10000 → (∀ x ∈ acc, x.1.length = n ∧ x.2.length = n) →
   Ev (fun k => Z15.l0 k (LS acc) (I2 P) (I2 P) ((I2 P).length : Int) (pre.length : Int)) (LS (insAll acc (pairs P rest))) := by
  intro rest
  induction rest with
  | nil =>
   intro pre acc e hl hx
   refine ev_succ ?_
   rw [List.append_nil] at e
   have d1 : ¬ ((pre.length : Int) < ((I2 P).length : Int)) := by rw [I2_len, e]; omega
   simp only [Z15.l0, d1, if_false]
   exact Ev.now _
  | cons p rest ih =>
   intro pre acc e hl hx
   rw [List.length_cons] at hl
   have hlen : P.length = pre.length + (rest.length + 1) := by rw [← e]; simp
   refine ev_succ ?_
   have d1 : ((pre.length : Int) < ((I2 P).length : Int)) := by rw [I2_len]; omega
   have d2 : (0 : Int) ≤ (pre.length : Int) := by omega
   have d3 := w64s pre.length (by omega)
   have d4 := rdL_P e
   simp only [Z15.l0, d1, d2, d4, if_true]
   have e3 : ((pre ++ [p]).length : Int) = ((pre.length + 1 : Nat) : Int) := by simp
   have hpl := prs_len P p
   have hil := insAll_len (prs P p) acc
   have hp : p.length = n := hQ p (by rw [← e]; simp)
   have hx2 : ∀ x ∈ insAll acc (prs P p), x.1.length = n ∧ x.2.length = n := by
    intro x hm
    rcases (mem_insAll _ _ _).1 hm with hm | hm
    ·exact hx x hm
    ·obtain ⟨q, hq, hxq⟩ := List.mem_flatMap.1 hm
     obtain ⟨a1, a2⟩ := pr_mem hxq
     exact ⟨a1.trans hp, a2.trans (hQ q hq)⟩
   have key := ih (pre ++ [p]) (insAll acc (prs P p)) (by rw [← e]; simp) (by omega) hx2
   rw [e3, ← insAll_app] at key
   refine H1 p hp (pre.length : Int) _ P [] acc (by simp) (by omega) hx ?_
   rw [d3]
   exact key
 exact H0 P [] [] (by simp) (by simp; omega) (by simp)
theorem spec_no {n : Int} (h : ¬ (1 ≤ n ∧ n ≤ 4)) : Ev (fun k => Z15.f k n) ([] : List S38) := by
 unfold Z15.f
 have c0 : (decide ((1 : Int) ≤ n) && decide (n ≤ 4)) = false := by
  rw [Bool.eq_false_iff]
  intro h0
  rw [Bool.and_eq_true] at h0
  exact h ⟨of_decide_eq_true h0.1, of_decide_eq_true h0.2⟩
 rw [spec_in14, c0]
 simp only [Option.bind_some, Bool.false_eq_true, if_false]
 exact Ev.now _
theorem impl_no {n : Int} (h : ¬ (1 ≤ n ∧ n ≤ 4)) : Ev (fun k => Z10.f k n) ([] : List S38) := by
 unfold Z10.f
 by_cases h1 : n < 1
 ·simp only [h1, if_true]
  refine ev_succ ?_
  simp only [Z10.j0, if_true]
  exact Ev.now _
 ·have h2 : n > 4 := by omega
  simp only [h1, h2, if_false, decide_true]
  refine ev_succ ?_
  simp only [Z10.j0, if_true]
  exact Ev.now _
end Go.Proofs.YtoijcallajegfaaGreat.M
end
section
/- Plain mathematics: surfaces that are alike by renaming. No conditions. -/
namespace Go.Proofs.YtoijcallajegfaaGreat.M
set_option linter.unusedVariables false
set_option linter.unusedSimpArgs false
structure Is (s t : List Nat × List Nat) (f : Nat → Nat) : Prop where
 len : t.1.length = s.1.length
 lt : ∀ x, x < s.1.length → f x < s.1.length
 inj : ∀ x y, x < s.1.length → y < s.1.length → f x = f y → x = y
 r : ∀ x, x < s.1.length → f (g s.1 x) = g t.1 (f x)
 u : ∀ x, x < s.1.length → f (g s.2 x) = g t.2 (f x)
theorem Sf.gr {r u : List Nat} (hs : Sf r u) {x : Nat} (h : x < r.length) : g r x < r.length := g_lt hs.pr h
theorem Sf.gu {r u : List Nat} (hs : Sf r u) {x : Nat} (h : x < r.length) : g u x < r.length := by
 have := g_lt hs.pu (i := x) (by rw [hs.eq]; exact h)
 rw [hs.eq] at this
 exact this
theorem Sf.ir {r u : List Nat} (hs : Sf r u) {x : Nat} (h : x < r.length) : ix r x < r.length := ix_lt hs.pr h
theorem Sf.iu {r u : List Nat} (hs : Sf r u) {x : Nat} (h : x < r.length) : ix u x < r.length := by
 have := ix_lt hs.pu (x := x) (by rw [hs.eq]; exact h)
 rw [hs.eq] at this
 exact this
theorem Is.refl (s : List Nat × List Nat) : Is s s (fun x => x) := ⟨rfl, fun _ h => h, fun _ _ _ _ h => h, fun _ _ => rfl, fun _ _ => rfl⟩
theorem Is.trans {s t v : List Nat × List Nat} {f h : Nat → Nat} (a : Is s t f) (b : Is t v h) : Is s v (fun x => h (f x)) where
 len := b.len.trans a.len
 lt x hx := by have := b.lt (f x) (by rw [a.len]; exact a.lt x hx); rw [a.len] at this; exact this
 inj x y hx hy e := a.inj x y hx hy (b.inj _ _ (by rw [a.len]; exact a.lt x hx) (by rw [a.len]; exact a.lt y hy) e)
 r x hx := by show h (f (g s.1 x)) = _; rw [a.r x hx, b.r _ (by rw [a.len]; exact a.lt x hx)]
 u x hx := by show h (f (g s.2 x)) = _; rw [a.u x hx, b.u _ (by rw [a.len]; exact a.lt x hx)]
def bk (n : Nat) (f : Nat → Nat) (y : Nat) : Nat := ix (tab n f) y
theorem bk_lt {n : Nat} {f : Nat → Nat} (h1 : ∀ x, x < n → f x < n) (h2 : ∀ x y, x < n → y < n → f x = f y → x = y) {y : Nat} (hy : y < n) : bk n f y < n := by
 have := ix_lt (isP_tab h1 h2) (x := y) (by rw [tab_len]; exact hy)
 rw [tab_len] at this
 exact this
theorem f_bk {n : Nat} {f : Nat → Nat} (h1 : ∀ x, x < n → f x < n) (h2 : ∀ x y, x < n → y < n → f x = f y → x = y) {y : Nat} (hy : y < n) : f (bk n f y) = y := by
 have h := g_ix (isP_tab h1 h2) (x := y) (by rw [tab_len]; exact hy)
 have hb : ix (tab n f) y < n := bk_lt h1 h2 hy
 rw [g_tab hb] at h
 exact h
theorem bk_f {n : Nat} {f : Nat → Nat} (h1 : ∀ x, x < n → f x < n) (h2 : ∀ x y, x < n → y < n → f x = f y → x = y) {x : Nat} (hx : x < n) : bk n f (f x) = x :=
 h2 _ _ (bk_lt h1 h2 (h1 x hx)) hx (f_bk h1 h2 (h1 x hx))
theorem Is.symm {s t : List Nat × List Nat} {f : Nat → Nat} (hs : Sf s.1 s.2) (a : Is s t f) : Is t s (bk s.1.length f) where
 len := a.len.symm
 lt y hy := by rw [a.len] at hy ⊢; exact bk_lt a.lt a.inj hy
 inj y z hy hz e := by
  rw [a.len] at hy hz
  rw [← f_bk a.lt a.inj hy, ← f_bk a.lt a.inj hz, e]
 r y hy := by
  rw [a.len] at hy
  have hb := bk_lt a.lt a.inj hy
  have e : g t.1 y = f (g s.1 (bk s.1.length f y)) := by rw [a.r _ hb, f_bk a.lt a.inj hy]
  rw [e, bk_f a.lt a.inj (hs.gr hb)]
 u y hy := by
  rw [a.len] at hy
  have hb := bk_lt a.lt a.inj hy
  have e : g t.2 y = f (g s.2 (bk s.1.length f y)) := by rw [a.u _ hb, f_bk a.lt a.inj hy]
  rw [e, bk_f a.lt a.inj (hs.gu hb)]
theorem Sf.of_is {s t : List Nat × List Nat} {f : Nat → Nat} (hs : Sf s.1 s.2) (a : Is s t f) (p1 : IsP t.1) (p2 : IsP t.2) (hl : t.2.length = t.1.length) : Sf t.1 t.2 := by
 refine sf_of_tr p1 p2 (by rw [a.len]; exact hs.le) hl (by rw [a.len]; exact hs.pos) (fun S s0 k1 k2 y hy => ?_)
 rw [a.len] at k1 k2 hy
 have i0 := bk_lt a.lt a.inj hs.pos
 have h0 : S (f (bk s.1.length f 0)) := by rw [f_bk a.lt a.inj hs.pos]; exact s0
 have hm := (reach_full hs i0).2 (bk s.1.length f y) (bk_lt a.lt a.inj hy)
 have := (bfs_ind (fun x => S (f x)) (n := s.1.length) (fun x hx h => ⟨by rw [a.r x hx]; exact k1 _ (a.lt x hx) h, hs.gr hx⟩) (fun x hx h => ⟨by rw [a.u x hx]; exact k2 _ (a.lt x hx) h, hs.gu hx⟩) _ _ [bk s.1.length f 0] (by intro x hx; obtain rfl : x = bk s.1.length f 0 := (by simpa using hx); exact ⟨h0, i0⟩) _ hm).1
 rw [f_bk a.lt a.inj hy] at this
 exact this
theorem Sf.all_of {r u : List Nat} (hs : Sf r u) {S : Nat → Prop} {i : Nat} (hi : i < r.length) (h0 : S i) (h1 : ∀ x, x < r.length → S x → S (g r x)) (h2 : ∀ x, x < r.length → S x → S (g u x)) : ∀ y, y < r.length → S y := by
 intro y hy
 have hm := (reach_full hs hi).2 y hy
 exact (bfs_ind S (n := r.length) (fun x hx h => ⟨h1 x hx h, hs.gr hx⟩) (fun x hx h => ⟨h2 x hx h, hs.gu hx⟩) _ _ [i] (by intro x hx; obtain rfl : x = i := (by simpa using hx); exact ⟨h0, hi⟩) _ hm).1
theorem Is.ir {s t : List Nat × List Nat} {f : Nat → Nat} (hs : Sf s.1 s.2) (ht : Sf t.1 t.2) (a : Is s t f) {x : Nat} (hx : x < s.1.length) : f (ix s.1 x) = ix t.1 (f x) := by
 have h1 := hs.ir hx
 refine (ix_eq ht.pr (by rw [a.len]; exact a.lt _ h1) ?_).symm
 rw [← a.r _ h1, g_ix hs.pr hx]
theorem Is.iu {s t : List Nat × List Nat} {f : Nat → Nat} (hs : Sf s.1 s.2) (ht : Sf t.1 t.2) (a : Is s t f) {x : Nat} (hx : x < s.1.length) : f (ix s.2 x) = ix t.2 (f x) := by
 have h1 := hs.iu hx
 refine (ix_eq ht.pu (by rw [ht.eq, a.len]; exact a.lt _ h1) ?_).symm
 rw [← a.u _ h1, g_ix hs.pu (by rw [hs.eq]; exact hx)]
end Go.Proofs.YtoijcallajegfaaGreat.M
end
section
/- What the four letters keep: symmetries and half turns. No conditions. -/
namespace Go.Proofs.YtoijcallajegfaaGreat.M
set_option linter.unusedVariables false
set_option linter.unusedSimpArgs false
open Classical in
noncomputable def ledN (s t : List Nat × List Nat) (b : Nat) : Nat := ((List.range s.1.length).filter (fun i => decide (∃ f, Is s t f ∧ f b = i))).length
def symN (s : List Nat × List Nat) : Nat := ((List.range s.1.length).filter (fun i => decide (rS s.1 s.2 i = canS s.1 s.2))).length
def neg (s : List Nat × List Nat) : List Nat × List Nat := (inv s.1, inv s.2)
end Go.Proofs.YtoijcallajegfaaGreat.M
end
section
/- Plain mathematics: classes of what is linked. No conditions. -/
namespace Go.Proofs.YtoijcallajegfaaGreat.M
set_option linter.unusedVariables false
set_option linter.unusedSimpArgs false
inductive Cn (up : Nat → Option Nat) : Nat → Nat → Prop
 | refl (i : Nat) : Cn up i i
 | up {i j k : Nat} : up i = some j → Cn up j k → Cn up i k
 | dn {i j k : Nat} : up j = some i → Cn up j k → Cn up i k
theorem Cn.trans {up : Nat → Option Nat} {i j k : Nat} (h : Cn up i j) (h' : Cn up j k) : Cn up i k := by
 induction h with
 | refl i => exact h'
 | up e _ ih => exact .up e (ih h')
 | dn e _ ih => exact .dn e (ih h')
theorem Cn.symm {up : Nat → Option Nat} {i j : Nat} (h : Cn up i j) : Cn up j i := by
 induction h with
 | refl i => exact .refl i
 | up e _ ih => exact ih.trans (.dn e (.refl _))
 | dn e _ ih => exact ih.trans (.up e (.refl _))
theorem Cn.one {up : Nat → Option Nat} {i j : Nat} (h : up i = some j) : Cn up i j := .up h (.refl _)
theorem Cn.lt {n : Nat} {up : Nat → Option Nat} (hup : ∀ i j, up i = some j → i < n ∧ j < n) {i j : Nat} (h : Cn up i j) (hi : i < n) : j < n := by
 induction h with
 | refl i => exact hi
 | up e _ ih => exact ih (hup _ _ e).2
 | dn e _ ih => exact ih (hup _ _ e).1
theorem Cn.closed {up : Nat → Option Nat} {S : Nat → Prop} (hS : ∀ i j, up i = some j → (S i ↔ S j)) {i j : Nat} (h : Cn up i j) : S i ↔ S j := by
 induction h with
 | refl i => exact Iff.rfl
 | up e _ ih => exact (hS _ _ e).trans ih
 | dn e _ ih => exact (hS _ _ e).symm.trans ih
structure Grp (n : Nat) (up : Nat → Option Nat) (t : Nat) (G : Nat → Nat) : Prop where
 le : ∀ j, j < n → G j ≤ j
 fix : ∀ j, j < n → G (G j) = G j
 cn : ∀ j, j < n → Cn up j (G j)
 ed : ∀ i j, i < t → up i = some j → G i = G j
def mgf (G : Nat → Nat) (a b : Nat) : Nat → Nat := fun j => if G j = a ∨ G j = b then min a b else G j
theorem Grp.start (n : Nat) (up : Nat → Option Nat) : Grp n up 0 (fun j => j) := ⟨fun j _ => Nat.le_refl _, fun j _ => rfl, fun j _ => .refl _, fun i j h _ => by omega⟩
theorem Grp.skip {n t : Nat} {up : Nat → Option Nat} {G : Nat → Nat} (h : Grp n up t G) (e : up t = none) : Grp n up (t + 1) G :=
 ⟨h.le, h.fix, h.cn, fun i j hi hj => by
  by_cases e2 : i = t
  ·subst e2
   rw [e] at hj
   cases hj
  ·exact h.ed i j (by omega) hj⟩
theorem Grp.merge {n t k : Nat} {up : Nat → Option Nat} (hup : ∀ i j, up i = some j → i < n ∧ j < n) {G : Nat → Nat} (h : Grp n up t G) (e : up t = some k) : Grp n up (t + 1) (mgf G (G t) (G k)) := by
 obtain ⟨ht, hk⟩ := hup t k e
 have ha := h.fix t ht
 have hb := h.fix k hk
 have la := h.le t ht
 have lb := h.le k hk
 have hab : Cn up (G t) (G k) := (h.cn t ht).symm.trans ((Cn.one e).trans (h.cn k hk))
 have hm : min (G t) (G k) = G t ∨ min (G t) (G k) = G k := by omega
 refine ⟨fun j hj => ?_, fun j hj => ?_, fun j hj => ?_, fun i j hi hj => ?_⟩
 ·unfold mgf
  have := h.le j hj
  split <;> omega
 ·have key : ∀ c, (c = G t ∨ c = G k) → mgf G (G t) (G k) c = min (G t) (G k) := by
   intro c hc
   unfold mgf
   rw [if_pos (by rcases hc with rfl | rfl; exact .inl ha; exact .inr hb)]
  by_cases hc : G j = G t ∨ G j = G k
  ·have e1 : mgf G (G t) (G k) j = min (G t) (G k) := by unfold mgf; rw [if_pos hc]
   rw [e1]
   exact key _ hm
  ·have e1 : mgf G (G t) (G k) j = G j := by unfold mgf; rw [if_neg hc]
   rw [e1]
   unfold mgf
   rw [h.fix j hj, if_neg hc]
 ·unfold mgf
  split
  ·rename_i hc
   refine (h.cn j hj).trans ?_
   rcases hc with hc | hc <;> rcases hm with hm | hm <;> rw [hc, hm]
   ·exact .refl _
   ·exact hab
   ·exact hab.symm
   ·exact .refl _
  ·exact h.cn j hj
 ·by_cases e2 : i = t
  ·subst e2
   rw [e] at hj
   injection hj with hj
   subst hj
   unfold mgf
   simp
  ·unfold mgf
   rw [h.ed i j (by omega) hj]
theorem Grp.iff {n : Nat} {up : Nat → Option Nat} (hup : ∀ i j, up i = some j → i < n ∧ j < n) {G : Nat → Nat} (h : Grp n up n G) {i j : Nat} (hi : i < n) (hj : j < n) : G i = G j ↔ Cn up i j := by
 constructor
 ·intro e
  have := (h.cn i hi).trans ((by rw [e]; exact .refl _ : Cn up (G i) (G j)).trans (h.cn j hj).symm)
  exact this
 ·intro hc
  induction hc with
  | refl i => rfl
  | up e _ ih => rw [h.ed _ _ (hup _ _ e).1 e]; exact ih (hup _ _ e).2 hj
  | dn e _ ih => rw [← h.ed _ _ (hup _ _ e).1 e]; exact ih (hup _ _ e).1 hj
theorem Grp.head {n : Nat} {up : Nat → Option Nat} (hup : ∀ i j, up i = some j → i < n ∧ j < n) {G : Nat → Nat} (h : Grp n up n G) {i : Nat} (hi : i < n) : G i = i ↔ ∀ j, Cn up i j → i ≤ j := by
 constructor
 ·intro e j hc
  have hj := hc.lt hup hi
  have := (h.iff hup hi hj).mpr hc
  have := h.le j hj
  omega
 ·intro hc
  have := hc _ (h.cn i hi)
  have := h.le i hi
  omega
def ups (up : Nat → Option Nat) : Nat → Nat → Option Nat
 | 0, i => some i
 | m + 1, i => (up i).bind (ups up m)
theorem ups_succ (up : Nat → Option Nat) (m i : Nat) : ups up (m + 1) i = (ups up m i).bind up := by
 induction m generalizing i with
 | zero =>
  simp only [ups, Option.bind_some]
  cases h : up i <;> rfl
 | succ m ih =>
  show (up i).bind (ups up (m + 1)) = ((up i).bind (ups up m)).bind up
  cases h : up i with
  | none => rfl
  | some j => exact ih j
theorem ups_cn {up : Nat → Option Nat} {m i j : Nat} (h : ups up m i = some j) : Cn up i j := by
 induction m generalizing i with
 | zero => simp [ups] at h; subst h; exact .refl _
 | succ m ih =>
  obtain ⟨z, hz, h2⟩ := Option.bind_eq_some_iff.mp h
  exact .up hz (ih h2)
structure Mk (n : Nat) (up : Nat → Option Nat) (row : Nat) (S0 add : List Nat) : Prop where
 nd : add.Nodup
 lt : ∀ x ∈ add, x < n
 new : ∀ x ∈ add, x ∉ S0
 p : ∀ x ∈ add, (∃ m, ups up m row = some x) ∨ (∃ m, ups up m x = some row)
theorem Mk.cn {n : Nat} {up : Nat → Option Nat} {row : Nat} {S0 add : List Nat} (h : Mk n up row S0 add) {x : Nat} (hx : x ∈ add) : Cn up row x := by
 rcases h.p x hx with ⟨m, hm⟩ | ⟨m, hm⟩
 ·exact ups_cn hm
 ·exact (ups_cn hm).symm
theorem Mk.add {n : Nat} {up : Nat → Option Nat} {row : Nat} {S0 add : List Nat} (h : Mk n up row S0 add) {x : Nat} (hx : x < n) (h1 : x ∉ S0) (h2 : x ∉ add) (hp : (∃ m, ups up m row = some x) ∨ (∃ m, ups up m x = some row)) : Mk n up row S0 (add ++ [x]) := by
 refine ⟨List.nodup_append.mpr ⟨h.nd, by simp, fun a ha b hb e => ?_⟩, fun y hy => ?_, fun y hy => ?_, fun y hy => ?_⟩
 ·have : b = x := by simpa using hb
  exact h2 (by rw [← this, ← e]; exact ha)
 ·rcases List.mem_append.mp hy with hy | hy
  ·exact h.lt y hy
  ·have : y = x := by simpa using hy
   omega
 ·rcases List.mem_append.mp hy with hy | hy
  ·exact h.new y hy
  ·have : y = x := by simpa using hy
   rw [this]
   exact h1
 ·rcases List.mem_append.mp hy with hy | hy
  ·exact h.p y hy
  ·have : y = x := by simpa using hy
   rw [this]
   exact hp
theorem Mk.full {n : Nat} {up : Nat → Option Nat} (hup : ∀ i j, up i = some j → i < n ∧ j < n) (hinj : ∀ i i' j, up i = some j → up i' = some j → i = i') {row : Nat} {S0 add : List Nat} (h : Mk n up row S0 add) (hrow : row ∈ add)
  (hS0 : ∀ i j, up i = some j → (i ∈ S0 ↔ j ∈ S0)) (c1 : ∀ x ∈ add, ∀ y, up x = some y → y ∈ S0 ∨ y ∈ add)
  (c2 : ∀ k x, up k = some x → (x ∈ S0 ∨ x ∈ add) → (∃ m, ups up m k = some row) → (k ∈ S0 ∨ k ∈ add)) : ∀ x, x ∈ add ↔ Cn up row x := by
 have hrs : row ∉ S0 := h.new row hrow
 have chain : ∀ m x, ups up m row = some x → x ∈ add := by
  intro m
  induction m with
  | zero => intro x hx; simp [ups] at hx; rw [← hx]; exact hrow
  | succ m ih =>
   intro x hx
   rw [ups_succ] at hx
   obtain ⟨z, hz, hzx⟩ := Option.bind_eq_some_iff.mp hx
   have hza := ih z hz
   rcases c1 z hza x hzx with k | k
   ·exact absurd ((hS0 z x hzx).mpr k) (h.new z hza)
   ·exact k
 have closed : ∀ i j, up i = some j → ((i ∈ S0 ∨ i ∈ add) ↔ (j ∈ S0 ∨ j ∈ add)) := by
  intro i j e
  constructor
  ·rintro (k | k)
   ·exact .inl ((hS0 i j e).mp k)
   ·exact c1 i k j e
  ·rintro (k | k)
   ·exact .inl ((hS0 i j e).mpr k)
   ·rcases h.p j k with ⟨m, hm⟩ | ⟨m, hm⟩
    ·cases m with
     | zero =>
      simp [ups] at hm
      subst hm
      exact c2 i _ e (.inr k) ⟨1, by simp [ups, e]⟩
     | succ m =>
      rw [ups_succ] at hm
      obtain ⟨z, hz, hzj⟩ := Option.bind_eq_some_iff.mp hm
      have := hinj i z j e hzj
      subst this
      exact .inr (chain m _ hz)
    ·exact c2 i j e (.inr k) ⟨m + 1, by simp [ups, e, hm]⟩
 intro x
 constructor
 ·exact fun hx => h.cn hx
 ·intro hc
  have h1 := (Cn.closed (S := fun z => z ∈ S0 ∨ z ∈ add) closed hc).mp (.inr hrow)
  rcases h1 with h1 | h1
  ·exact absurd ((Cn.closed (S := fun z => z ∈ S0) hS0 hc).mpr h1) hrs
  ·exact h1
end Go.Proofs.YtoijcallajegfaaGreat.M
end
section
/- Half turns: the tests of the program and of the reference come to one plain test. No conditions. -/
namespace Go.Proofs.YtoijcallajegfaaGreat.M
set_option linter.unusedVariables false
set_option linter.unusedSimpArgs false
open Go.RowKit Go.Proofs.YtoijcallajegfaaGreatW.PrintWords Go.Proofs.YtoijcallajegfaaGreatW.PrintLast Go.Proofs.YtoijcallajegfaaGreatW.PrintMore Go.Proofs.YtoijcallajegfaaGreat.A
def Turn (r u a : List Nat) : Prop := ∀ i, i < a.length → g a (g r i) = ix r (g a i) ∧ g a (g u i) = ix u (g a i)
instance (r u a : List Nat) : Decidable (Turn r u a) := by unfold Turn; infer_instance
end Go.Proofs.YtoijcallajegfaaGreat.M
end
section
/- Half turns as the program makes them. No conditions. -/
namespace Go.Proofs.YtoijcallajegfaaGreat.M
set_option linter.unusedVariables false
set_option linter.unusedSimpArgs false
open Go.RowKit Go.Proofs.YtoijcallajegfaaGreatW.PrintWords Go.Proofs.YtoijcallajegfaaGreatW.PrintLast Go.Proofs.YtoijcallajegfaaGreatW.PrintMore Go.Proofs.YtoijcallajegfaaGreat.A
structure TurnP (r u b : List Nat) : Prop where
 len : b.length = r.length
 p : IsP b
 t : Turn r u b
theorem ix_inj {p : List Nat} (hp : IsP p) {x y : Nat} (hx : x < p.length) (hy : y < p.length) (h : ix p x = ix p y) : x = y := by
 rw [← g_ix hp hx, ← g_ix hp hy, h]
structure FI (r u : List Nat) (im : Nat) (out : List Nat) (f : Nat → Nat) : Prop where
 lt : ∀ x ∈ out, f x < r.length
 z : f 0 = im
 z0 : 0 ∈ out
 t : ∀ b, TurnP r u b → g b 0 = im → ∀ x ∈ out, f x = g b x
theorem FI.add {r u : List Nat} {im : Nat} {out : List Nat} {f : Nat → Nat} (h : FI r u im out f) {y v : Nat} (hy : y ∉ out) (hv : v < r.length) (ht : ∀ b, TurnP r u b → g b 0 = im → v = g b y) : FI r u im (out ++ [y]) (fun z => if z = y then v else f z) := by
 have h0 : (0 : Nat) ≠ y := fun e => hy (e ▸ h.z0)
 refine ⟨fun x hx => ?_, by simp [h0, h.z], by simp [h.z0], fun b hb hb0 x hx => ?_⟩
 ·by_cases e : x = y
  ·simp [e, hv]
  ·rcases List.mem_append.mp hx with hx | hx
   ·simp [e, h.lt x hx]
   ·exact absurd (by simpa using hx) e
 ·by_cases e : x = y
  ·subst e
   simp [ht b hb hb0]
  ·rcases List.mem_append.mp hx with hx | hx
   ·simp [e, h.t b hb hb0 x hx]
   ·exact absurd (by simpa using hx) e
end Go.Proofs.YtoijcallajegfaaGreat.M
end
section
/- Half turns: the program and the reference find the same ones. No conditions. -/
namespace Go.Proofs.YtoijcallajegfaaGreat.M
set_option linter.unusedVariables false
set_option linter.unusedSimpArgs false
open Go.RowKit Go.Proofs.YtoijcallajegfaaGreatW.PrintWords Go.Proofs.YtoijcallajegfaaGreatW.PrintLast Go.Proofs.YtoijcallajegfaaGreatW.PrintMore Go.Proofs.YtoijcallajegfaaGreat.A
def Led (r u out : List Nat) (a : Nat) : Prop := ∀ i, i < out.length → 0 < i → ∃ j, j < i ∧ j < a ∧ (g out i = g r (g out j) ∨ g out i = g u (g out j))
theorem g_app {out : List Nat} {x i : Nat} (h : i < out.length) : g (out ++ [x]) i = g out i := by
 unfold g
 rw [List.getD_eq_getElem?_getD, List.getD_eq_getElem?_getD, List.getElem?_append_left h]
theorem g_last (out : List Nat) (x : Nat) : g (out ++ [x]) out.length = x := getD_mid out x [] 0
theorem Led.st {r u out : List Nat} {a y : Nat} (h : Led r u out (a + 1)) (ha : a < out.length) (hy : y = g r (g out a) ∨ y = g u (g out a)) : Led r u (st1 out y) (a + 1) := by
 unfold st1
 split
 ·exact h
 ·intro i hi h0
  by_cases e : i < out.length
  ·obtain ⟨j, j1, j2, j3⟩ := h i e h0
   refine ⟨j, j1, j2, ?_⟩
   rw [g_app e, g_app (by omega)]
   exact j3
  ·have e2 : i = out.length := by simp at hi; omega
   subst e2
   refine ⟨a, ha, by omega, ?_⟩
   rw [g_last, g_app ha]
   exact hy
inductive Given (r u L : List Nat) (i : Nat) : Nat → Prop
 | z : Given r u L i 0
 | r (j : Nat) : j < i → Given r u L i (g r (g L j))
 | u (j : Nat) : j < i → Given r u L i (g u (g L j))
theorem Given.mono {r u L : List Nat} {i x : Nat} (h : Given r u L i x) : Given r u L (i + 1) x := by
 cases h with
 | z => exact .z
 | r j hj => exact .r j (by omega)
 | u j hj => exact .u j (by omega)
structure GI (r u : List Nat) (im : Nat) (i : Nat) (c : List Nat) : Prop where
 len : c.length = r.length
 lt : ∀ x, x < r.length → g c x < r.length
 t : ∀ b, TurnP r u b → g b 0 = im → ∀ x, Given r u (reach r u 0) i x → g c x = g b x
 n : ∀ b, TurnP r u b → g b 0 ≠ im → ∀ x, Given r u (reach r u 0) i x → g c x ≠ g b x
theorem GI.put {r u : List Nat} (hs : Sf r u) {p : List Nat} (hp : p = r ∨ p = u) {im : Nat} {c : List Nat} (P : Nat → Prop) (h1 : c.length = r.length) (h2 : ∀ x, x < r.length → g c x < r.length) (ht : ∀ b, TurnP r u b → g b 0 = im → ∀ x, P x → g c x = g b x) (hn : ∀ b, TurnP r u b → g b 0 ≠ im → ∀ x, P x → g c x ≠ g b x) {x : Nat} (hx : x < r.length) (hP : P x) :
  (c.set (g p x) (ix p (g c x))).length = r.length ∧ (∀ z, z < r.length → g (c.set (g p x) (ix p (g c x))) z < r.length) ∧ (∀ b, TurnP r u b → g b 0 = im → ∀ z, (P z ∨ z = g p x) → g (c.set (g p x) (ix p (g c x))) z = g b z) ∧ (∀ b, TurnP r u b → g b 0 ≠ im → ∀ z, (P z ∨ z = g p x) → g (c.set (g p x) (ix p (g c x))) z ≠ g b z) := by
 have heq := hs.eq
 have ipp : IsP p := by rcases hp with rfl | rfl; exact hs.pr; exact hs.pu
 have hpl : p.length = r.length := by rcases hp with rfl | rfl; rfl; exact heq
 have gx := g_lt ipp (i := x) (by omega)
 have cx := h2 x hx
 have hv := ix_lt ipp (x := g c x) (by omega)
 have tp : ∀ b, TurnP r u b → g b (g p x) = ix p (g b x) := fun b hb => by
  have := hb.t x (by rw [hb.len]; exact hx)
  rcases hp with rfl | rfl
  ·exact this.1
  ·exact this.2
 refine ⟨by rw [List.length_set]; exact h1, fun z hz => ?_, fun b hb hb0 z hz => ?_, fun b hb hb0 z hz => ?_⟩
 ·rw [g_set (by omega)]
  split
  ·omega
  ·exact h2 z hz
 ·rw [g_set (by omega)]
  by_cases e : g p x = z
  ·rw [if_pos e, ← e, tp b hb, ht b hb hb0 x hP]
  ·rw [if_neg e]
   rcases hz with hz | hz
   ·exact ht b hb hb0 z hz
   ·exact absurd hz.symm e
 ·rw [g_set (by omega)]
  by_cases e : g p x = z
  ·rw [if_pos e, ← e, tp b hb]
   intro h
   exact hn b hb hb0 x hP (ix_inj ipp (by omega) (by have := g_lt hb.p (i := x) (by rw [hb.len]; exact hx); rw [hb.len] at this; omega) h)
  ·rw [if_neg e]
   rcases hz with hz | hz
   ·exact hn b hb hb0 z hz
   ·exact absurd hz.symm e
end Go.Proofs.YtoijcallajegfaaGreat.M
end
section
/- Fixed points: the program and the reference answer alike. No conditions. -/
namespace Go.Proofs.YtoijcallajegfaaGreat.M
set_option linter.unusedVariables false
set_option linter.unusedSimpArgs false
open Go.RowKit Go.Proofs.YtoijcallajegfaaGreatW.PrintWords Go.Proofs.YtoijcallajegfaaGreatW.PrintLast Go.Proofs.YtoijcallajegfaaGreatW.PrintMore Go.Proofs.YtoijcallajegfaaGreat.A
theorem spec_corners {r u : List Nat} (hs : Sf r u) : Ev (fun k => Z32.f k (I r) (I u)) (I2 (cycles (arnd r u))) := by
 unfold Z32.f
 refine Ev.bind (spec_surf _ _) ?_
 rw [surfB_I.mpr hs]
 simp only [if_true]
 exact Ev.bind (spec_around hs) (Ev.bind (spec_cycles (isP_arnd hs) (by rw [arnd_len]; exact hs.le)) (Ev.now _))
theorem impl_corners {r u : List Nat} (hs : Sf r u) : Ev (fun k => Z26.f k (I r) (I u)) (I2 (cycles (arnd r u))) := by
 unfold Z26.f
 refine Ev.bind (impl_surf _ _) ?_
 rw [surfB_I.mpr hs]
 simp only [if_true]
 exact Ev.bind (impl_around hs) (Ev.bind (impl_cycles (isP_arnd hs) (by rw [arnd_len]; exact hs.le)) (Ev.now _))
end Go.Proofs.YtoijcallajegfaaGreat.M
end
section
/- What words keep: the program's answers. No conditions. -/
namespace Go.Proofs.YtoijcallajegfaaGreat.M
set_option linter.unusedVariables false
set_option linter.unusedSimpArgs false
open Go.RowKit Go.Proofs.YtoijcallajegfaaGreatW.PrintWords Go.Proofs.YtoijcallajegfaaGreatW.PrintLast Go.Proofs.YtoijcallajegfaaGreatW.PrintMore Go.Proofs.YtoijcallajegfaaGreat.A
def angL (s : List Nat × List Nat) : List Nat := sortD ((cycles (arnd s.1 s.2)).map List.length)
theorem angL_len (s : List Nat × List Nat) : (angL s).length = (cycles (arnd s.1 s.2)).length := by unfold angL; rw [sortD_len, List.length_map]
theorem ang_le {s : List Nat × List Nat} (hs : Sf s.1 s.2) : ∀ x ∈ (cycles (arnd s.1 s.2)).map List.length, x ≤ 24 := by
 intro x hx
 obtain ⟨c, hc, rfl⟩ := List.mem_map.mp hx
 exact cycle_len (isP_arnd hs) (by rw [arnd_len]; exact hs.le) c hc
theorem impl_angles {s : List Nat × List Nat} (hs : Sf s.1 s.2) : Ev (fun k => Z41.f k (I s.1) (I s.2)) (I (angL s)) := by
 have h24 := cycles_len (p := arnd s.1 s.2) (by rw [arnd_len]; exact hs.le)
 have hle := ang_le hs
 unfold Z41.f angL
 refine Ev.bind (impl_corners hs) ?_
 generalize cycles (arnd s.1 s.2) = C at h24 hle
 have H : ∀ d j : Nat, j + d = C.length → Ev (fun k => Z41.l0 k (I ((C.take j).map List.length)) (I2 C) (C.length : Int) (j : Int)) (I (sortD (C.map List.length))) := by
  intro d
  induction d with
  | zero =>
   intro j hj
   obtain rfl : j = C.length := by omega
   refine ev_succ ?_
   have c1 : ¬ ((C.length : Int) < (C.length : Int)) := by omega
   have e : Z0.f (I (C.map List.length)) = some (I (sortD (C.map List.length))) := by
    unfold Z0.f
    have e1 : (I (C.map List.length)).map Int.toNat = C.map List.length := N_I _
    have e2 : ∀ x ∈ I (C.map List.length), 0 ≤ x ∧ x ≤ 4611686018427387904 := by
     intro x hx
     obtain ⟨y, hy, rfl⟩ := List.mem_map.mp hx
     have := hle y hy
     show 0 ≤ (y : Int) ∧ (y : Int) ≤ 4611686018427387904
     omega
    rw [if_pos ⟨e2, by rw [I_len, List.length_map]; omega⟩, e1]
    rfl
   simp only [Z41.l0, c1, if_false, List.take_length, e, Option.bind_some]
   exact Ev.now _
  | succ d ih =>
   intro j hj
   have hjl : j < C.length := by omega
   have c1 : (j : Int) < (C.length : Int) := by omega
   have c2 : (0 : Int) ≤ (j : Int) := by omega
   have c4 : rd_L1 (I2 C) (j : Int) = I (C[j]) := rdL_I2 C j hjl
   have c5 : (I ((C.take j).map List.length)).length < 17592186044416 := by rw [I_len, List.length_map, List.length_take]; omega
   have c6 : I ((C.take j).map List.length) ++ [((C[j].length : Nat) : Int)] = I ((C.take (j + 1)).map List.length) := by
    rw [I_snoc, ← List.take_append_getElem hjl, List.map_append]
    rfl
   have c3 := w64s j (by omega)
   refine ev_succ ?_
   simp only [Z41.l0, c1, c2, c3, c4, c5, c6, I2_len, I_len', if_true]
   exact ih (j + 1) (by omega)
 have key := H C.length 0 (Nat.zero_add _)
 rw [← I2_len C] at key
 exact key
def strL (s : List Nat × List Nat) : List Nat := ((angL s).filter (fun a => decide (1 < a))).map (fun a => a - 1)
theorem impl_strat {s : List Nat × List Nat} (hs : Sf s.1 s.2) : Ev (fun k => Z28.f k (I s.1) (I s.2)) (I (strL s)) := by
 have h24 := cycles_len (p := arnd s.1 s.2) (by rw [arnd_len]; exact hs.le)
 rw [← angL_len] at h24
 have hle : ∀ x ∈ angL s, x ≤ 24 := fun x hx => ang_le hs x ((sortD_perm _).mem_iff.mp hx)
 unfold Z28.f strL
 refine Ev.bind (impl_angles hs) ?_
 generalize angL s = C at h24 hle
 have H : ∀ d j : Nat, j + d = C.length → Ev (fun k => Z28.l0 k (I (((C.take j).filter (fun a => decide (1 < a))).map (fun a => a - 1))) (I C) (C.length : Int) (j : Int)) (I ((C.filter (fun a => decide (1 < a))).map (fun a => a - 1))) := by
  intro d
  induction d with
  | zero =>
   intro j hj
   obtain rfl : j = C.length := by omega
   refine ev_succ ?_
   have c1 : ¬ ((C.length : Int) < (C.length : Int)) := by omega
   simp only [Z28.l0, c1, if_false, List.take_length]
   exact Ev.now _
  | succ d ih =>
   intro j hj
   have hjl : j < C.length := by omega
   have hm := hle _ (g_mem hjl)
   have c1 : (j : Int) < (C.length : Int) := by omega
   have c2 : (0 : Int) ≤ (j : Int) := by omega
   have c5 : (I (((C.take j).filter (fun a => decide (1 < a))).map (fun a => a - 1))).length < 17592186044416 := by
    rw [I_len, List.length_map]
    have := List.length_filter_le (fun a => decide (1 < a)) (C.take j)
    rw [List.length_take] at this
    omega
   have c3 := w64s j (by omega)
   have e0 : C.take (j + 1) = C.take j ++ [g C j] := by rw [g_get hjl, List.take_append_getElem hjl]
   have key := ih (j + 1) (by omega)
   rw [e0, List.filter_append, List.map_append] at key
   refine ev_succ ?_
   by_cases h : 1 < g C j
   ·have h' : ((g C j : Nat) : Int) > 1 := by omega
    have c6 : wrap64 (((g C j : Nat) : Int) - 1) = ((g C j - 1 : Nat) : Int) := by rw [w64 (by omega) (by omega)]; omega
    have e1 : ([g C j].filter (fun a => decide (1 < a))).map (fun a => a - 1) = [g C j - 1] := by simp [h]
    rw [e1] at key
    simp only [Z28.l0, c1, c2, c3, c5, c6, rdI, I_len', I_snoc, h', if_true]
    exact key
   ·have h' : ¬ ((g C j : Nat) : Int) > 1 := by omega
    have e1 : ([g C j].filter (fun a => decide (1 < a))).map (fun a => a - 1) = [] := by simp [h]
    rw [e1, List.append_nil] at key
    simp only [Z28.l0, c1, c2, c3, rdI, I_len', h', if_true, if_false]
    exact key
 have key := H C.length 0 (Nat.zero_add _)
 rw [← I_len C] at key
 exact key
structure Alike (s t : List Nat × List Nat) : Prop where
 sf : Sf t.1 t.2
 len : t.1.length = s.1.length
 sym : symN t = symN s
 turn : ledN t (neg t) 0 = ledN s (neg s) 0
 ang : angL t = angL s
end Go.Proofs.YtoijcallajegfaaGreat.M
end
section
/- The reference's sorting. No conditions. -/
namespace Go.Proofs.YtoijcallajegfaaGreat.M
set_option linter.unusedVariables false
set_option linter.unusedSimpArgs false
open Go.RowKit Go.Proofs.YtoijcallajegfaaGreatW.PrintWords Go.Proofs.YtoijcallajegfaaGreatW.PrintLast Go.Proofs.YtoijcallajegfaaGreatW.PrintMore Go.Proofs.YtoijcallajegfaaGreat.A
theorem rd_leftD (a : List Nat) (z : Int) (b : List Nat) {k : Nat} (h : k < a.length) : rd (I a ++ z :: I b) (k : Int) = ((g a k : Nat) : Int) := by
 rw [← rdI]
 unfold rd
 rw [Int.toNat_natCast, List.getD_eq_getElem?_getD, List.getD_eq_getElem?_getD, List.getElem?_append_left (by rw [I_len]; exact h)]
theorem set_atD (a : List Nat) (z v : Int) (b : List Nat) : (I a ++ z :: I b).set a.length v = I a ++ v :: I b := by
 rw [← I_len a]
 exact set_mid (I a) z v (I b)
theorem take_gD {a : List Nat} {k : Nat} (h : k < a.length) : a.take (k + 1) = a.take k ++ [g a k] := by
 rw [g_get h, List.take_append_getElem h]
theorem down_put (acc : List Nat) (hf : Fall acc) (hl : acc.length ≤ 1000) (x : Nat) (L : List Int) (n j : Int) (res : List Int)
  (h : Ev (fun k => Z60.l0 k (I (insD x acc)) L n (wrap64 (j + 1))) res) :
  ∀ (k : Nat) (z : Int), k ≤ acc.length → (∀ y ∈ acc.drop k, y < x) → Ev (fun q => Z60.l1 q (I (acc.take k) ++ z :: I (acc.drop k)) (x : Int) (k : Int) L n j) res := by
 intro k
 induction k with
 | zero =>
  intro z _ hd
  have e := insD_at hf 0 (Nat.zero_le _) hd (.inl rfl)
  have hs := set_atD (acc.take 0) z (x : Int) (acc.drop 0)
  refine ev_succ ?_
  have c1 : ¬ (((0 : Nat) : Int) > 0) := by omega
  have c2 : (0 : Int) ≤ ((0 : Nat) : Int) := by omega
  have c3 : ((0 : Nat) : Int) < ((I (acc.take 0) ++ z :: I (acc.drop 0)).length : Int) := by simp; omega
  have c4 : (I (acc.take 0) ++ z :: I (acc.drop 0)).set ((0 : Nat) : Int).toNat (x : Int) = I (insD x acc) := by
   rw [e, ← I_app]
   exact hs
  simp only [Z60.l1, c1, c2, c3, c4, if_true, if_false]
  exact h
 | succ k ih =>
  intro z hk hd
  have hk' : k < acc.length := by omega
  have htl : (acc.take (k + 1)).length = k + 1 := by rw [List.length_take]; omega
  have c1 : ((k + 1 : Nat) : Int) > 0 := by omega
  have c5 : (0 : Int) ≤ (k : Int) := by omega
  have hlen : (I (acc.take (k + 1)) ++ z :: I (acc.drop (k + 1))).length = acc.length + 1 := by
   rw [List.length_append, List.length_cons, I_len, I_len, htl, List.length_drop]
   omega
  have c6 : (k : Int) < ((I (acc.take (k + 1)) ++ z :: I (acc.drop (k + 1))).length : Int) := by rw [hlen]; omega
  have c7 : (0 : Int) ≤ ((k + 1 : Nat) : Int) := by omega
  have c8 : ((k + 1 : Nat) : Int) < ((I (acc.take (k + 1)) ++ z :: I (acc.drop (k + 1))).length : Int) := by rw [hlen]; omega
  have hgk : g (acc.take (k + 1)) k = g acc k := by
   unfold g
   rw [List.getD_eq_getElem?_getD, List.getD_eq_getElem?_getD, List.getElem?_take]
   simp
  have c9 : rd (I (acc.take (k + 1)) ++ z :: I (acc.drop (k + 1))) (k : Int) = ((g acc k : Nat) : Int) := by
   rw [rd_leftD _ _ _ (by rw [htl]; omega), hgk]
  have c3 : wrap64 (((k + 1 : Nat) : Int) - 1) = (k : Int) := by rw [w64 (by omega) (by omega)]; omega
  refine ev_succ ?_
  by_cases hlt : g acc k < x
  ·have c10 : ((g acc k : Nat) : Int) < (x : Int) := by exact_mod_cast hlt
   have hs : (I (acc.take (k + 1)) ++ z :: I (acc.drop (k + 1))).set (((k + 1 : Nat) : Int)).toNat ((g acc k : Nat) : Int) = I (acc.take k) ++ ((g acc k : Nat) : Int) :: I (acc.drop k) := by
    have h1 := set_atD (acc.take (k + 1)) z ((g acc k : Nat) : Int) (acc.drop (k + 1))
    rw [htl] at h1
    rw [Int.toNat_natCast, h1, take_gD hk', ← I_app, I_one, List.append_assoc]
    have h2 : acc.drop k = g acc k :: acc.drop (k + 1) := by rw [g_get hk']; exact List.drop_eq_getElem_cons hk'
    rw [h2]
    rfl
   have key := ih ((g acc k : Nat) : Int) (by omega) (fun y hy => by
    have h2 : acc.drop k = g acc k :: acc.drop (k + 1) := by rw [g_get hk']; exact List.drop_eq_getElem_cons hk'
    rw [h2] at hy
    rcases List.mem_cons.mp hy with rfl | hy
    ·exact hlt
    ·exact hd y hy)
   simp only [Z60.l1, c1, c3, c5, c6, c7, c8, c9, c10, hs, if_true]
   exact key
  ·have c10 : ¬ (((g acc k : Nat) : Int) < (x : Int)) := by omega
   have e := insD_at hf (k + 1) hk hd (.inr (by show x ≤ g acc k; omega))
   have c4 : (I (acc.take (k + 1)) ++ z :: I (acc.drop (k + 1))).set (((k + 1 : Nat) : Int)).toNat (x : Int) = I (insD x acc) := by
    have h1 := set_atD (acc.take (k + 1)) z (x : Int) (acc.drop (k + 1))
    rw [htl] at h1
    rw [Int.toNat_natCast, h1, e, ← I_app]
    rfl
   simp only [Z60.l1, c1, c3, c4, c5, c6, c7, c8, c9, c10, if_true, if_false]
   exact h
theorem down_sorted (l : List Nat) (hl : l.length ≤ 1000) : Ev (fun k => Z60.f k (I l)) (I (sortD l)) := by
 unfold Z60.f
 have H : ∀ d j : Nat, j + d = l.length → ∀ acc : List Nat, Fall acc → acc.length = j → (l.drop j).foldl (fun a x => insD x a) acc = sortD l → Ev (fun k => Z60.l0 k (I acc) (I l) (l.length : Int) (j : Int)) (I (sortD l)) := by
  intro d
  induction d with
  | zero =>
   intro j hj acc hf ha he
   rw [List.drop_of_length_le (by omega)] at he
   refine ev_succ ?_
   have c1 : ¬ ((j : Int) < (l.length : Int)) := by omega
   simp only [Z60.l0, c1, if_false]
   rw [← he]
   exact Ev.now _
  | succ d ih =>
   intro j hj acc hf ha he
   have hjl : j < l.length := by omega
   rw [List.drop_eq_getElem_cons hjl, List.foldl_cons, ← g_get hjl] at he
   have key := ih (j + 1) (by omega) (insD (g l j) acc) (insD_fall hf) (by rw [insD_len, ha]) he
   have c3 := w64s j (by omega)
   rw [← c3] at key
   have put := down_put acc hf (by omega) (g l j) (I l) (l.length : Int) (j : Int) _ key acc.length 0 (Nat.le_refl _) (fun y hy => by rw [List.drop_length] at hy; simp at hy)
   rw [List.take_length, List.drop_length, I_nil] at put
   have q1 : acc.length + 1 ≤ 9000000000000000000 := by omega
   have c1 : (j : Int) < (l.length : Int) := by omega
   have c2 : (0 : Int) ≤ (j : Int) := by omega
   have c5 : (I acc).length < 17592186044416 := by rw [I_len]; omega
   have c4 : wrap64 (((I acc ++ [0]).length : Int) - 1) = (acc.length : Int) := by
    have e : ((I acc ++ [0]).length : Int) - 1 = (acc.length : Int) := by rw [List.length_append, I_len]; simp
    rw [e]
    exact w64 (by omega) (by omega)
   refine ev_succ ?_
   simp only [Z60.l0, c1, c2, c4, c5, rdI, I_len', if_true, Option.bind_some]
   exact put
 have key := H l.length 0 (Nat.zero_add _) [] List.Pairwise.nil rfl (by rw [List.drop_zero]; rfl)
 rw [← I_len l] at key
 exact key
end Go.Proofs.YtoijcallajegfaaGreat.M
end
section
/- The surfaces of a stratum: the program and the reference find the same ones. No conditions. -/
namespace Go.Proofs.YtoijcallajegfaaGreat.M
set_option linter.unusedVariables false
set_option linter.unusedSimpArgs false
open Go.RowKit Go.Proofs.YtoijcallajegfaaGreatW.PrintWords Go.Proofs.YtoijcallajegfaaGreatW.PrintLast Go.Proofs.YtoijcallajegfaaGreatW.PrintMore Go.Proofs.YtoijcallajegfaaGreat.A
theorem rd_getI {l : List Int} {i : Nat} (h : i < l.length) : rd l (i : Int) = l[i] := by
 unfold rd
 rw [Int.toNat_natCast, List.getD_eq_getElem?_getD, List.getElem?_eq_getElem h]
 rfl
theorem sameList_int (a b : List Int) (h : a.length ≤ 1000000000) : Ev (fun k => Z52.f k a b) (decide (a = b)) := by
 unfold Z52.f
 by_cases hl : (a.length : Int) = (b.length : Int)
 ·have hl' : a.length = b.length := by omega
  simp only [hl, ne_eq, not_true_eq_false, if_false, if_true]
  have H : ∀ d i : Nat, i + d = a.length → Ev (fun k => Z52.l0 k b a (b.length : Int) (i : Int)) (decide (a.drop i = b.drop i)) := by
   intro d
   induction d with
   | zero =>
    intro i hi
    refine ev_succ ?_
    have c1 : ¬ ((i : Int) < (b.length : Int)) := by omega
    have e : decide (a.drop i = b.drop i) = true := by rw [List.drop_of_length_le (by omega), List.drop_of_length_le (by omega)]; simp
    simp only [Z52.l0, c1, if_false, e]
    exact Ev.now _
   | succ d ih =>
    intro i hi
    have hia : i < a.length := by omega
    have hib : i < b.length := by omega
    rw [List.drop_eq_getElem_cons hia, ← rd_getI hia, List.drop_eq_getElem_cons hib, ← rd_getI hib]
    have c1 : (i : Int) < (b.length : Int) := by omega
    have c2 : (0 : Int) ≤ (i : Int) := by omega
    have c4 : (i : Int) < (a.length : Int) := by omega
    have c3 := w64s i (by omega)
    refine ev_succ ?_
    by_cases he : rd a (i : Int) = rd b (i : Int)
    ·have z : rd a (i : Int) = rd b (i : Int) := he
     have e : decide (rd a (i : Int) :: a.drop (i + 1) = rd b (i : Int) :: b.drop (i + 1)) = decide (a.drop (i + 1) = b.drop (i + 1)) := by simp [he]
     rw [e]
     simp only [Z52.l0, c1, c2, c3, c4, z, if_true]
     exact ih (i + 1) (by omega)
    ·have z : ¬ (rd a (i : Int) = rd b (i : Int)) := he
     have e : decide (rd a (i : Int) :: a.drop (i + 1) = rd b (i : Int) :: b.drop (i + 1)) = false := by simp [he]
     rw [e]
     simp only [Z52.l0, c1, c2, c4, z, if_true, if_false]
     exact Ev.now _
  have key := H a.length 0 (Nat.zero_add _)
  rw [List.drop_zero, List.drop_zero] at key
  exact key
 ·have e : decide (a = b) = false := by
   rw [decide_eq_false_iff_not]
   intro e
   rw [e] at hl
   exact hl rfl
  simp only [hl, ne_eq, not_false_eq_true, if_true, if_false, e]
  exact Ev.now _
theorem equal_int (a b : List Int) (h : a.length ≤ 1000000000) : Ev (fun k => Z44.f k a b) (decide (a = b)) := by
 unfold Z44.f Z5.f
 refine Ev.bind (a := decide (a = b)) ?_ (Ev.now _)
 by_cases hl : (a.length : Int) = (b.length : Int)
 ·have hl' : a.length = b.length := by omega
  simp only [hl, if_true]
  have H : ∀ d i : Nat, i + d = a.length → Ev (fun k => Z5.l0 k a b (b.length : Int) (i : Int)) (decide (a.drop i = b.drop i)) := by
   intro d
   induction d with
   | zero =>
    intro i hi
    refine ev_succ ?_
    have c1 : ¬ ((i : Int) < (b.length : Int)) := by omega
    have e : decide (a.drop i = b.drop i) = true := by rw [List.drop_of_length_le (by omega), List.drop_of_length_le (by omega)]; simp
    simp only [Z5.l0, c1, if_false, e]
    exact Ev.now _
   | succ d ih =>
    intro i hi
    have hia : i < a.length := by omega
    have hib : i < b.length := by omega
    rw [List.drop_eq_getElem_cons hia, ← rd_getI hia, List.drop_eq_getElem_cons hib, ← rd_getI hib]
    have c1 : (i : Int) < (b.length : Int) := by omega
    have c2 : (0 : Int) ≤ (i : Int) := by omega
    have c4 : (i : Int) < (a.length : Int) := by omega
    have c3 := w64s i (by omega)
    refine ev_succ ?_
    by_cases he : rd a (i : Int) = rd b (i : Int)
    ·have z : rd a (i : Int) = rd b (i : Int) := he
     have e : decide (rd a (i : Int) :: a.drop (i + 1) = rd b (i : Int) :: b.drop (i + 1)) = decide (a.drop (i + 1) = b.drop (i + 1)) := by simp [he]
     rw [e]
     simp only [Z5.l0, c1, c2, c3, c4, z, if_true]
     exact ih (i + 1) (by omega)
    ·have z : ¬ (rd a (i : Int) = rd b (i : Int)) := he
     have e : decide (rd a (i : Int) :: a.drop (i + 1) = rd b (i : Int) :: b.drop (i + 1)) = false := by simp [he]
     rw [e]
     simp only [Z5.l0, c1, c2, c4, z, if_true, if_false]
     exact Ev.now _
  have key := H a.length 0 (Nat.zero_add _)
  rw [List.drop_zero, List.drop_zero] at key
  exact key
 ·have e : decide (a = b) = false := by
   rw [decide_eq_false_iff_not]
   intro e
   rw [e] at hl
   exact hl rfl
  simp only [hl, if_false, e]
  exact Ev.now _
theorem spec_lengths (C : List (List Nat)) (h24 : C.length ≤ 24) : Ev (fun k => Z25.f k (I2 C)) (I (sortD (C.map List.length))) := by
 unfold Z25.f
 have H : ∀ d j : Nat, j + d = C.length → Ev (fun k => Z25.l0 k (I ((C.take j).map List.length)) (I2 C) (C.length : Int) (j : Int)) (I (sortD (C.map List.length))) := by
  intro d
  induction d with
  | zero =>
   intro j hj
   obtain rfl : j = C.length := by omega
   refine ev_succ ?_
   have c1 : ¬ ((C.length : Int) < (C.length : Int)) := by omega
   simp only [Z25.l0, c1, if_false, List.take_length]
   exact Ev.bind (down_sorted _ (by rw [List.length_map]; omega)) (Ev.now _)
  | succ d ih =>
   intro j hj
   have hjl : j < C.length := by omega
   have c1 : (j : Int) < (C.length : Int) := by omega
   have c2 : (0 : Int) ≤ (j : Int) := by omega
   have c4 : rd_L1 (I2 C) (j : Int) = I (C[j]) := rdL_I2 C j hjl
   have c5 : (I ((C.take j).map List.length)).length < 17592186044416 := by rw [I_len, List.length_map, List.length_take]; omega
   have c6 : I ((C.take j).map List.length) ++ [((C[j].length : Nat) : Int)] = I ((C.take (j + 1)).map List.length) := by
    rw [I_snoc, ← List.take_append_getElem hjl, List.map_append]
    rfl
   have c3 := w64s j (by omega)
   refine ev_succ ?_
   simp only [Z25.l0, c1, c2, c3, c4, c5, c6, I2_len, I_len', if_true]
   exact ih (j + 1) (by omega)
 have key := H C.length 0 (Nat.zero_add _)
 rw [← I2_len C] at key
 exact key
theorem spec_angles {s : List Nat × List Nat} (hs : Sf s.1 s.2) : Ev (fun k => Z50.f k (I s.1) (I s.2)) (I (angL s)) := by
 have h24 := cycles_len (p := arnd s.1 s.2) (by rw [arnd_len]; exact hs.le)
 unfold Z50.f angL
 exact Ev.bind (spec_corners hs) (Ev.bind (spec_lengths _ h24) (Ev.now _))
theorem spec_strat {s : List Nat × List Nat} (hs : Sf s.1 s.2) : Ev (fun k => Z33.f k (I s.1) (I s.2)) (I (strL s)) := by
 have h24 := cycles_len (p := arnd s.1 s.2) (by rw [arnd_len]; exact hs.le)
 rw [← angL_len] at h24
 have hle : ∀ x ∈ angL s, x ≤ 24 := fun x hx => ang_le hs x ((sortD_perm _).mem_iff.mp hx)
 unfold Z33.f strL
 refine Ev.bind (spec_angles hs) ?_
 generalize angL s = C at h24 hle
 have H : ∀ d j : Nat, j + d = C.length → Ev (fun k => Z33.l0 k (I (((C.take j).filter (fun a => decide (1 < a))).map (fun a => a - 1))) (I C) (C.length : Int) (j : Int)) (I ((C.filter (fun a => decide (1 < a))).map (fun a => a - 1))) := by
  intro d
  induction d with
  | zero =>
   intro j hj
   obtain rfl : j = C.length := by omega
   refine ev_succ ?_
   have c1 : ¬ ((C.length : Int) < (C.length : Int)) := by omega
   simp only [Z33.l0, c1, if_false, List.take_length]
   exact Ev.now _
  | succ d ih =>
   intro j hj
   have hjl : j < C.length := by omega
   have hm := hle _ (g_mem hjl)
   have c1 : (j : Int) < (C.length : Int) := by omega
   have c2 : (0 : Int) ≤ (j : Int) := by omega
   have c5 : (I (((C.take j).filter (fun a => decide (1 < a))).map (fun a => a - 1))).length < 17592186044416 := by
    rw [I_len, List.length_map]
    have := List.length_filter_le (fun a => decide (1 < a)) (C.take j)
    rw [List.length_take] at this
    omega
   have c3 := w64s j (by omega)
   have e0 : C.take (j + 1) = C.take j ++ [g C j] := by rw [g_get hjl, List.take_append_getElem hjl]
   have key := ih (j + 1) (by omega)
   rw [e0, List.filter_append, List.map_append] at key
   refine ev_succ ?_
   by_cases h : 1 < g C j
   ·have h' : ((g C j : Nat) : Int) > 1 := by omega
    have c6 : wrap64 (((g C j : Nat) : Int) - 1) = ((g C j - 1 : Nat) : Int) := by rw [w64 (by omega) (by omega)]; omega
    have e1 : ([g C j].filter (fun a => decide (1 < a))).map (fun a => a - 1) = [g C j - 1] := by simp [h]
    rw [e1] at key
    simp only [Z33.l0, c1, c2, c3, c5, c6, rdI, I_len', I_snoc, h', if_true]
    exact key
   ·have h' : ¬ ((g C j : Nat) : Int) > 1 := by omega
    have e1 : ([g C j].filter (fun a => decide (1 < a))).map (fun a => a - 1) = [] := by simp [h]
    rw [e1, List.append_nil] at key
    simp only [Z33.l0, c1, c2, c3, rdI, I_len', h', if_true, if_false]
    exact key
 have key := H C.length 0 (Nat.zero_add _)
 rw [← I_len C] at key
 exact key
def tabN : Nat → List (List Nat × List Nat)
 | 1 => [([0], [0])]
 | 2 => [([0, 1], [1, 0]), ([1, 0], [0, 1]), ([1, 0], [1, 0])]
 | 3 => [([0, 1, 2], [1, 2, 0]), ([0, 2, 1], [1, 0, 2]), ([0, 2, 1], [1, 2, 0]), ([1, 2, 0], [0, 1, 2]), ([1, 2, 0], [0, 2, 1]), ([1, 2, 0], [1, 2, 0]), ([1, 2, 0], [2, 0, 1])]
 | 4 => [([0, 1, 2, 3], [1, 2, 3, 0]), ([0, 1, 3, 2], [1, 2, 0, 3]), ([0, 1, 3, 2], [1, 2, 3, 0]), ([0, 2, 1, 3], [1, 0, 3, 2]), ([0, 2, 1, 3], [1, 3, 0, 2]), ([0, 2, 3, 1], [1, 0, 2, 3]), ([0, 2, 3, 1], [1, 0, 3, 2]), ([0, 2, 3, 1], [1, 2, 0, 3]), ([0, 2, 3, 1], [1, 2, 3, 0]), ([0, 2, 3, 1], [1, 3, 0, 2]), ([0, 2, 3, 1], [1, 3, 2, 0]), ([1, 0, 3, 2], [0, 2, 1, 3]), ([1, 0, 3, 2], [0, 2, 3, 1]), ([1, 0, 3, 2], [1, 2, 3, 0]), ([1, 0, 3, 2], [2, 3, 0, 1]), ([1, 0, 3, 2], [2, 3, 1, 0]), ([1, 2, 3, 0], [0, 1, 2, 3]), ([1, 2, 3, 0], [0, 1, 3, 2]), ([1, 2, 3, 0], [0, 2, 3, 1]), ([1, 2, 3, 0], [0, 3, 1, 2]), ([1, 2, 3, 0], [0, 3, 2, 1]), ([1, 2, 3, 0], [1, 0, 3, 2]), ([1, 2, 3, 0], [1, 2, 3, 0]), ([1, 2, 3, 0], [1, 3, 0, 2]), ([1, 2, 3, 0], [2, 3, 0, 1]), ([1, 3, 0, 2], [2, 0, 3, 1])]
 | _ => []
theorem surf_tab3 : surfN 1 = tabN 1 ∧ surfN 2 = tabN 2 ∧ surfN 3 = tabN 3 := by decide +kernel
theorem surf_tab4 : surfN 4 = tabN 4 := by decide +kernel
theorem surf_tab {n : Nat} (h1 : 1 ≤ n) (h4 : n ≤ 4) : surfN n = tabN n := by
 rcases four_cases h1 h4 with rfl | rfl | rfl | rfl
 ·exact surf_tab3.1
 ·exact surf_tab3.2.1
 ·exact surf_tab3.2.2
 ·exact surf_tab4
theorem tab_ok : ∀ n : Fin 5, (tabN n.val).length ≤ 26 ∧ ∀ s ∈ tabN n.val, surfB (I s.1) (I s.2) = true := by decide +kernel
theorem tabN_ok {n : Nat} (h4 : n ≤ 4) : (tabN n).length ≤ 26 ∧ ∀ s ∈ tabN n, Sf s.1 s.2 := by
 obtain ⟨a, b⟩ := tab_ok ⟨n, by omega⟩
 exact ⟨a, fun s hs => surfB_I.1 (b s hs)⟩
def inStr (l : List (List Nat × List Nat)) (x : List Int) : List (List Nat × List Nat) := l.filter (fun s => decide (I (strL s) = x))
theorem strL_le {s : List Nat × List Nat} (hs : Sf s.1 s.2) : (strL s).length ≤ 24 := by
 unfold strL
 rw [List.length_map]
 refine Nat.le_trans (List.length_filter_le _ _) ?_
 rw [angL_len]
 exact cycles_len (p := arnd s.1 s.2) (by rw [arnd_len]; exact hs.le)
theorem spec_in_loop (x : List Int) (l : List (List Nat × List Nat)) (hl : l.length ≤ 1000) (hs : ∀ s ∈ l, Sf s.1 s.2) : ∀ (rest pre : List (List Nat × List Nat)), pre ++ rest = l → Ev (fun k => Z23.l0 k x (LS (inStr pre x)) (LS l) ((LS l).length : Int) (pre.length : Int)) (LS (inStr l x)) := by
 intro rest
 induction rest with
 | nil =>
  intro pre e
  rw [List.append_nil] at e
  subst e
  refine ev_succ ?_
  have d1 : ¬ ((pre.length : Int) < ((LS pre).length : Int)) := by rw [LS_len]; omega
  simp only [Z23.l0, d1, if_false]
  exact Ev.now _
 | cons s rest ih =>
  intro pre e
  have hlen : l.length = pre.length + (rest.length + 1) := by rw [← e]; simp
  have h0 := hs s (by rw [← e]; simp)
  refine ev_succ ?_
  have d1 : ((pre.length : Int) < ((LS l).length : Int)) := by rw [LS_len]; omega
  have d2 : (0 : Int) ≤ (pre.length : Int) := by omega
  have d3 := w64s pre.length (by omega)
  have d4 : rd_T38 (LS l) (pre.length : Int) = ⟨I s.1, I s.2⟩ := by rw [← e]; exact LS_mid pre s rest
  have e3 : ((pre ++ [s]).length : Int) = ((pre.length + 1 : Nat) : Int) := by simp
  have e4 : inStr (pre ++ [s]) x = inStr pre x ++ inStr [s] x := List.filter_append ..
  have d5 : (LS (inStr pre x)).length < 2932031007402 := by
   rw [LS_len]
   have : (inStr pre x).length ≤ pre.length := List.length_filter_le ..
   omega
  have key := ih (pre ++ [s]) (by rw [← e]; simp)
  rw [e3, e4, LS_app] at key
  have hl2 := strL_le h0
  simp only [Z23.l0, d1, d2, d4, if_true]
  refine Ev.bind (spec_strat h0) (Ev.bind (sameList_int _ x (by rw [I_len]; omega)) ?_)
  by_cases hx : I (strL s) = x
  ·have e5 : inStr [s] x = [s] := by simp [inStr, hx]
   rw [e5] at key
   simp only [hx, decide_true, if_true, d5, d3]
   exact key
  ·have e5 : inStr [s] x = [] := by simp [inStr, hx]
   rw [e5] at key
   simp only [hx, decide_false, Bool.false_eq_true, if_false, d3]
   simpa [LS] using key
theorem impl_in_loop (x : List Int) (l : List (List Nat × List Nat)) (hl : l.length ≤ 1000) (hs : ∀ s ∈ l, Sf s.1 s.2) : ∀ (rest pre : List (List Nat × List Nat)), pre ++ rest = l → Ev (fun k => Z21.l0 k x (LS (inStr pre x)) (LS l) ((LS l).length : Int) (pre.length : Int)) (LS (inStr l x)) := by
 intro rest
 induction rest with
 | nil =>
  intro pre e
  rw [List.append_nil] at e
  subst e
  refine ev_succ ?_
  have d1 : ¬ ((pre.length : Int) < ((LS pre).length : Int)) := by rw [LS_len]; omega
  simp only [Z21.l0, d1, if_false]
  exact Ev.now _
 | cons s rest ih =>
  intro pre e
  have hlen : l.length = pre.length + (rest.length + 1) := by rw [← e]; simp
  have h0 := hs s (by rw [← e]; simp)
  refine ev_succ ?_
  have d1 : ((pre.length : Int) < ((LS l).length : Int)) := by rw [LS_len]; omega
  have d2 : (0 : Int) ≤ (pre.length : Int) := by omega
  have d3 := w64s pre.length (by omega)
  have d4 : rd_T38 (LS l) (pre.length : Int) = ⟨I s.1, I s.2⟩ := by rw [← e]; exact LS_mid pre s rest
  have e3 : ((pre ++ [s]).length : Int) = ((pre.length + 1 : Nat) : Int) := by simp
  have e4 : inStr (pre ++ [s]) x = inStr pre x ++ inStr [s] x := List.filter_append ..
  have d5 : (LS (inStr pre x)).length < 2932031007402 := by
   rw [LS_len]
   have : (inStr pre x).length ≤ pre.length := List.length_filter_le ..
   omega
  have key := ih (pre ++ [s]) (by rw [← e]; simp)
  rw [e3, e4, LS_app] at key
  have hl2 := strL_le h0
  simp only [Z21.l0, d1, d2, d4, if_true]
  refine Ev.bind (impl_strat h0) (Ev.bind (equal_int _ x (by rw [I_len]; omega)) ?_)
  by_cases hx : I (strL s) = x
  ·have e5 : inStr [s] x = [s] := by simp [inStr, hx]
   rw [e5] at key
   simp only [hx, decide_true, if_true, d5, d3]
   exact key
  ·have e5 : inStr [s] x = [] := by simp [inStr, hx]
   rw [e5] at key
   simp only [hx, decide_false, Bool.false_eq_true, if_false, d3]
   simpa [LS] using key
theorem spec_in {n : Nat} (h1 : 1 ≤ n) (h4 : n ≤ 4) (x : List Int) : Ev (fun k => Z23.f k (n : Int) x) (LS (inStr (tabN n) x)) := by
 obtain ⟨a, b⟩ := tabN_ok h4
 have := spec_with h1 h4
 rw [surf_tab h1 h4] at this
 unfold Z23.f
 exact Ev.bind this (spec_in_loop x (tabN n) (by omega) b (tabN n) [] rfl)
theorem impl_in {n : Nat} (h1 : 1 ≤ n) (h4 : n ≤ 4) (x : List Int) : Ev (fun k => Z21.f k (n : Int) x) (LS (inStr (tabN n) x)) := by
 obtain ⟨a, b⟩ := tabN_ok h4
 have := impl_with h1 h4
 rw [surf_tab h1 h4] at this
 unfold Z21.f
 exact Ev.bind this (impl_in_loop x (tabN n) (by omega) b (tabN n) [] rfl)
theorem spec_in_no {n : Int} (h : ¬ (1 ≤ n ∧ n ≤ 4)) (x : List Int) : Ev (fun k => Z23.f k n x) ([] : List S38) := by
 unfold Z23.f
 exact Ev.bind (spec_no h) (spec_in_loop x [] (by simp) (by simp) [] [] rfl)
theorem impl_in_no {n : Int} (h : ¬ (1 ≤ n ∧ n ≤ 4)) (x : List Int) : Ev (fun k => Z21.f k n x) ([] : List S38) := by
 unfold Z21.f
 exact Ev.bind (impl_no h) (impl_in_loop x [] (by simp) (by simp) [] [] rfl)
end Go.Proofs.YtoijcallajegfaaGreat.M
end
section
/- Lists of surfaces: marks. No conditions. -/
namespace Go.Proofs.YtoijcallajegfaaGreat.M
set_option linter.unusedVariables false
set_option linter.unusedSimpArgs false
open Go.RowKit Go.Proofs.YtoijcallajegfaaGreatW.PrintWords Go.Proofs.YtoijcallajegfaaGreatW.PrintLast Go.Proofs.YtoijcallajegfaaGreatW.PrintMore Go.Proofs.YtoijcallajegfaaGreat.A
def totF : List S38 → Nat
 | [] => 0
 | x :: xs => x.f0.length + x.f1.length + totF xs
def mkF : List S38 → Int → List S38
 | [], _ => []
 | x :: xs, a => ⟨markL x.f0.length a, markL x.f1.length (a + (x.f0.length : Int))⟩ :: mkF xs (a + (x.f0.length : Int) + (x.f1.length : Int))
theorem markSurfS_ev (xs : List S38) (a : Int) (h0 : 0 ≤ a) (h : a + (totF xs : Int) ≤ 9000000000000000000) (hl : xs.length ≤ 1000000000) : Ev (fun k => Z13.f k xs a) (a + (totF xs : Int), mkF xs a) := by
 unfold Z13.f
 have H : ∀ (rest p : List S38) (b : Int), 0 ≤ b → b + (totF rest : Int) ≤ 9000000000000000000 → p.length + rest.length ≤ 1000000000 → Ev (fun k => Z13.l0 k (p ++ rest) b (p.length : Int)) (b + (totF rest : Int), p ++ mkF rest b) := by
  intro rest
  induction rest with
  | nil =>
   intro p b hb ht hlen
   refine ev_succ ?_
   have h1 : ¬ ((p.length : Int) < ((p ++ ([] : List S38)).length : Int)) := by simp
   simp only [Z13.l0, h1, if_false]
   have : b + (totF [] : Int) = b := by simp [totF]
   rw [this]
   exact Ev.now _
  | cons x rest ih =>
   intro p b hb ht hlen
   rw [totF] at ht
   have g1 : 0 ≤ b + (x.f0.length : Int) := by omega
   have g2 : 0 ≤ b + (x.f0.length : Int) + (x.f1.length : Int) := by omega
   have g3 : b + (x.f0.length : Int) + (x.f1.length : Int) + (totF rest : Int) ≤ 9000000000000000000 := by omega
   have g4 : b + (x.f0.length : Int) ≤ 9000000000000000000 := by omega
   have g5 : b + (x.f0.length : Int) + (x.f1.length : Int) ≤ 9000000000000000000 := by omega
   have g6 : p.length + 1 + rest.length ≤ 1000000000 := by rw [List.length_cons] at hlen; omega
   have g7 : b + ((totF (x :: rest) : Nat) : Int) = b + (x.f0.length : Int) + (x.f1.length : Int) + (totF rest : Int) := by rw [totF]; omega
   have g8 : ¬ (b + (x.f0.length : Int) < 0) := by omega
   have g9 : ¬ (b + (x.f0.length : Int) + (x.f1.length : Int) < 0) := by omega
   refine ev_succ ?_
   have h1 : (p.length : Int) < ((p ++ x :: rest).length : Int) := by simp; omega
   have h2 : (0 : Int) ≤ (p.length : Int) := by omega
   have h3 := w64s p.length (by omega)
   have h4 : rd_T38 (p ++ x :: rest) (p.length : Int) = x := by unfold rd_T38; rw [Int.toNat_natCast]; exact getD_mid p x rest _
   simp only [Z13.l0, h1, h2, h4, if_true, Int.toNat_natCast, set_mid]
   refine Ev.bind (mark_ev x.f0 b hb g4) (Ev.bind (mark_ev x.f1 (b + (x.f0.length : Int)) g1 g5) ?_)
   simp only [h3]
   have := ih (p ++ [⟨markL x.f0.length b, markL x.f1.length (b + (x.f0.length : Int))⟩]) (b + (x.f0.length : Int) + (x.f1.length : Int)) g2 g3 (by rw [List.length_append, List.length_singleton]; exact g6)
   rw [snoc_app]
   have e : ((p ++ [(⟨markL x.f0.length b, markL x.f1.length (b + (x.f0.length : Int))⟩ : S38)]).length : Int) = ((p.length + 1 : Nat) : Int) := by simp
   rw [e] at this
   rw [g7]
   have e3 : p ++ mkF (x :: rest) b = p ++ [(⟨markL x.f0.length b, markL x.f1.length (b + (x.f0.length : Int))⟩ : S38)] ++ mkF rest (b + (x.f0.length : Int) + (x.f1.length : Int)) := by simp [mkF]
   rw [e3]
   exact this
 exact H xs [] a h0 h (by simpa using hl)
theorem heldSurfS_ev (xs : List S38) (a : Int) (h0 : 0 ≤ a) (h : a + (totF xs : Int) ≤ 9000000000000000000) (hl : xs.length ≤ 1000000000) : Ev (fun k => Z12.f k (mkF xs a) a) (a + (totF xs : Int)) := by
 unfold Z12.f
 have H : ∀ (rest p : List S38) (b : Int), 0 ≤ b → b + (totF rest : Int) ≤ 9000000000000000000 → p.length + rest.length ≤ 1000000000 → Ev (fun k => Z12.l0 k (p ++ mkF rest b) b (p.length : Int)) (b + (totF rest : Int)) := by
  intro rest
  induction rest with
  | nil =>
   intro p b hb ht hlen
   refine ev_succ ?_
   have h1 : ¬ ((p.length : Int) < ((p ++ mkF [] b).length : Int)) := by simp [mkF]
   simp only [Z12.l0, h1, if_false]
   have : b + (totF [] : Int) = b := by simp [totF]
   rw [this]
   exact Ev.now _
  | cons x rest ih =>
   intro p b hb ht hlen
   rw [totF] at ht
   have g1 : 0 ≤ b + (x.f0.length : Int) := by omega
   have g2 : 0 ≤ b + (x.f0.length : Int) + (x.f1.length : Int) := by omega
   have g3 : b + (x.f0.length : Int) + (x.f1.length : Int) + (totF rest : Int) ≤ 9000000000000000000 := by omega
   have g4 : b + (x.f0.length : Int) ≤ 9000000000000000000 := by omega
   have g5 : b + (x.f0.length : Int) + (x.f1.length : Int) ≤ 9000000000000000000 := by omega
   have g6 : p.length + 1 + rest.length ≤ 1000000000 := by rw [List.length_cons] at hlen; omega
   have g7 : b + ((totF (x :: rest) : Nat) : Int) = b + (x.f0.length : Int) + (x.f1.length : Int) + (totF rest : Int) := by rw [totF]; omega
   have g8 : ¬ (b + (x.f0.length : Int) < 0) := by omega
   have g9 : ¬ (b + (x.f0.length : Int) + (x.f1.length : Int) < 0) := by omega
   refine ev_succ ?_
   have h1 : (p.length : Int) < ((p ++ mkF (x :: rest) b).length : Int) := by simp [mkF]; omega
   have h2 : (0 : Int) ≤ (p.length : Int) := by omega
   have h3 := w64s p.length (by omega)
   have h4 : rd_T38 (p ++ mkF (x :: rest) b) (p.length : Int) = ⟨markL x.f0.length b, markL x.f1.length (b + (x.f0.length : Int))⟩ := by unfold rd_T38; rw [Int.toNat_natCast]; exact getD_mid p _ _ _
   simp only [Z12.l0, h1, h2, h4, if_true]
   refine Ev.bind (held_ev x.f0.length b hb g4) ?_
   simp only [g8, if_false]
   refine Ev.bind (held_ev x.f1.length (b + (x.f0.length : Int)) g1 g5) ?_
   simp only [h3, g9, if_false]
   have := ih (p ++ [⟨markL x.f0.length b, markL x.f1.length (b + (x.f0.length : Int))⟩]) (b + (x.f0.length : Int) + (x.f1.length : Int)) g2 g3 (by rw [List.length_append, List.length_singleton]; exact g6)
   have e : ((p ++ [(⟨markL x.f0.length b, markL x.f1.length (b + (x.f0.length : Int))⟩ : S38)]).length : Int) = ((p.length + 1 : Nat) : Int) := by simp
   rw [e] at this
   rw [g7]
   have e3 : p ++ mkF (x :: rest) b = p ++ [(⟨markL x.f0.length b, markL x.f1.length (b + (x.f0.length : Int))⟩ : S38)] ++ mkF rest (b + (x.f0.length : Int) + (x.f1.length : Int)) := by simp [mkF]
   rw [e3]
   exact this
 exact H xs [] a h0 h (by simpa using hl)
theorem eqSurfS_same (xs : List S38) (hl : xs.length ≤ 1000000000) (h : ∀ x ∈ xs, x.f0.length ≤ 1000000000 ∧ x.f1.length ≤ 1000000000) : Ev (fun k => Z22.f k xs xs) true := by
 unfold Z22.f
 simp only [if_true]
 have H : ∀ (rest p : List S38), p.length + rest.length ≤ 1000000000 → (∀ x ∈ rest, x.f0.length ≤ 1000000000 ∧ x.f1.length ≤ 1000000000) → Ev (fun k => Z22.l0 k (p ++ rest) (p ++ rest) (p.length : Int)) true := by
  intro rest
  induction rest with
  | nil =>
   intro p hlen hx
   refine ev_succ ?_
   have h1 : ¬ ((p.length : Int) < ((p ++ ([] : List S38)).length : Int)) := by simp
   simp only [Z22.l0, h1, if_false]
   exact Ev.now _
  | cons x rest ih =>
   intro p hlen hx
   refine ev_succ ?_
   have h1 : (p.length : Int) < ((p ++ x :: rest).length : Int) := by simp; omega
   have h2 : (0 : Int) ≤ (p.length : Int) := by omega
   have h3 := w64s p.length (by omega)
   have h4 : rd_T38 (p ++ x :: rest) (p.length : Int) = x := by unfold rd_T38; rw [Int.toNat_natCast]; exact getD_mid p _ _ _
   have h5 := hx x (by simp)
   simp only [Z22.l0, h1, h2, h4, if_true]
   refine Ev.bind (eqSurf_same x.f0 x.f1 (by omega) (by omega)) ?_
   simp only [if_true, h3]
   rw [snoc_app]
   have := ih (p ++ [x]) (by simp at hlen ⊢; omega) (fun y hy => hx y (by simp [hy]))
   have e : ((p ++ [x]).length : Int) = ((p.length + 1 : Nat) : Int) := by simp
   rw [e] at this
   exact this
 exact H xs [] (by simpa using hl) h
end Go.Proofs.YtoijcallajegfaaGreat.M
end
section
/- The law of the surfaces of a stratum answers true. No conditions. -/
namespace Go.Proofs.YtoijcallajegfaaGreat.Pure
set_option linter.unusedVariables false
set_option linter.unusedSimpArgs false
set_option linter.unusedVariables false
set_option linter.unusedSimpArgs false
open Go.RowKit Go.Proofs.YtoijcallajegfaaGreatW.PrintWords Go.Proofs.YtoijcallajegfaaGreatW.PrintLast Go.Proofs.YtoijcallajegfaaGreatW.PrintMore Go.Proofs.YtoijcallajegfaaGreat.A Go.Proofs.YtoijcallajegfaaGreat.M
theorem FnExactSurfacesIn (n : Int) (s : List Int) (hn : (Lit.int .i64 n).wf = true) (hs : s.length ≤ maxLen) (_ : ∀ x ∈ s, (Lit.int .i64 x).wf = true) : ∃ k, Z2.F k n s := by
 unfold maxLen at hs
 unfold Z2.F
 by_cases hl : (s.length : Int) > 1048576
 ·exact ⟨0, .inl hl⟩
 ·have key : ∃ l : List S38, l.length ≤ 26 ∧ (∀ x ∈ l, x.f0.length ≤ 24 ∧ x.f1.length ≤ 24) ∧ Ev (fun k => Z23.f k n s) l ∧ Ev (fun k => Z21.f k n s) l := by
   by_cases h : 1 ≤ n ∧ n ≤ 4
   ·obtain ⟨m, rfl⟩ : ∃ m : Nat, n = (m : Int) := ⟨n.toNat, by omega⟩
    obtain ⟨a, b⟩ := tabN_ok (n := m) (by omega)
    refine ⟨_, ?_, ?_, spec_in (by omega) (by omega) s, impl_in (by omega) (by omega) s⟩
    ·rw [LS_len]
     exact Nat.le_trans (List.length_filter_le _ _) a
    ·intro x hx
     obtain ⟨y, hy, rfl⟩ := List.mem_map.1 hx
     have hy2 := b y ((List.mem_filter.1 hy).1)
     have h24 := hy2.le
     have he := hy2.eq
     show (I y.1).length ≤ 24 ∧ (I y.2).length ≤ 24
     rw [I_len, I_len]
     omega
   ·exact ⟨[], by simp, by simp, spec_in_no h s, impl_in_no h s⟩
  obtain ⟨l, hl2, hx, ⟨K1, e1⟩, ⟨K2, e2⟩⟩ := key
  obtain ⟨K3, e3⟩ := toInts_ev s (by omega)
  obtain ⟨K4, e4⟩ := eqInts_same s (by omega)
  obtain ⟨K5, e5⟩ := eqSurfS_same l (by omega) (fun x h => by have := hx x h; omega)
  have ht : ∀ l : List S38, (∀ x ∈ l, x.f0.length ≤ 24 ∧ x.f1.length ≤ 24) → totF l ≤ l.length * 48 := by
   intro l
   induction l with
   | nil => intro _; exact Nat.le_refl 0
   | cons x l ih =>
    intro h
    have a := ih (fun y hy => h y (List.mem_cons_of_mem _ hy))
    have b := h x (by simp)
    rw [totF, List.length_cons]
    omega
  have q0 := ht l hx
  have q1 : (1 : Int) + (totF l : Int) ≤ 9000000000000000000 := by omega
  obtain ⟨K6, e6⟩ := mark_ev s 1 (by omega) (by omega)
  obtain ⟨K7, e7⟩ := markSurfS_ev l 1 (by omega) q1 (by omega)
  obtain ⟨K8, e8⟩ := heldSurfS_ev l 1 (by omega) q1 (by omega)
  exact ⟨K1 + K2 + K3 + K4 + K5 + K6 + K7 + K8, .inr ⟨hl, l, _, _, _, _, e3 _ (by omega), e4 _ (by omega), e1 _ (by omega), e2 _ (by omega), e5 _ (by omega), e6 _ (by omega), decide_eq_false (by omega), e7 _ (by omega), e8 _ (by omega), decide_eq_false (by omega)⟩⟩
end Go.Proofs.YtoijcallajegfaaGreat.Pure
end
