/- Lemmas for the row FnDirections: the program's functions told as plain functions, and plain mathematics. No conditions. -/
import Derived.Test.YtbdnellgioimbaaQFnDirections2
section
namespace Go.Proofs.Ytbdnellgioimbaa.A
open Go.RowKit Go.Proofs.YtbdnellgioimbaaW.PrintWords Go.Proofs.YtbdnellgioimbaaW.PrintLast Go.Proofs.YtbdnellgioimbaaW.PrintMore
attribute [local go_sem] max2_int min2_int max_two min_two max_three min_three max_four min_four
set_option linter.unusedVariables false
set_option linter.unusedSimpArgs false
mutual
def impl_RunWord.j0 : Nat → ByteArray → Bool → List Int → List Int → Option (List Int × List Int × Bool)
  | 0, _, _, _, _ => none
  | k + 1, x1, x15, x1424000, x1424001 => if x15 = true then (some (([] : List Int), ([] : List Int), false)) else ((impl_copySurface.f x1424000 x1424001).bind fun bt1427 => (impl_RunWord.l0 k x1 0 bt1427.1 bt1427.2))
def impl_RunWord.l0 : Nat → ByteArray → Int → List Int → List Int → Option (List Int × List Int × Bool)
  | 0, _, _, _, _ => none
  | k + 1, x1, x7, x1434000, x1434001 => if x7 < (x1.size : Int) then (if 0 ≤ x7 then ((impl_letterSurface.f k x1434000 x1434001 (bt x1 x7)).bind fun bt1434 => (impl_RunWord.l0 k x1 (wrap64 (x7 + 1)) bt1434.1 bt1434.2)) else (none)) else (some (x1434000, x1434001, true))
end
def impl_RunWord.f (k : Nat) (l0_0 : List Int) (l0_1 : List Int) (a1 : ByteArray) : Option (List Int × List Int × Bool) := (impl_SurfaceOk.f k l0_0 l0_1).bind fun t1425 => (if t1425 = true then ((impl_WordOk.f k a1).bind fun t1426 => (impl_RunWord.j0 k a1 (!t1426) l0_0 l0_1)) else (impl_RunWord.j0 k a1 true l0_0 l0_1))
theorem impl_RunWord.mono_l : ∀ k, (∀ y0 y1 y2 y3, LeO (impl_RunWord.j0 k y0 y1 y2 y3) (impl_RunWord.j0 (k + 1) y0 y1 y2 y3)) ∧ (∀ y0 y1 y2 y3, LeO (impl_RunWord.l0 k y0 y1 y2 y3) (impl_RunWord.l0 (k + 1) y0 y1 y2 y3))
  | 0 => ⟨fun _ _ _ _ r h => by simp [impl_RunWord.j0] at h, fun _ _ _ _ r h => by simp [impl_RunWord.l0] at h⟩
  | k + 1 => by
    obtain ⟨ih0, ih1⟩ := impl_RunWord.mono_l k
    refine ⟨?_, ?_⟩
    · intro y0 y1 y2 y3
      unfold impl_RunWord.j0
      repeat' first|exact ih0 _ _ _ _|exact ih1 _ _ _ _|exact impl_SurfaceOk.mono _ _ _|exact impl_WordOk.mono _ _|exact impl_letterSurface.mono _ _ _ _|exact lo_|refine LeO.ite ?_ ?_|refine LeO.bind ?_ (fun _ => ?_)
    · intro y0 y1 y2 y3
      unfold impl_RunWord.l0
      repeat' first|exact ih0 _ _ _ _|exact ih1 _ _ _ _|exact impl_SurfaceOk.mono _ _ _|exact impl_WordOk.mono _ _|exact impl_letterSurface.mono _ _ _ _|exact lo_|refine LeO.ite ?_ ?_|refine LeO.bind ?_ (fun _ => ?_)
theorem impl_RunWord.mono : ∀ a0 a1 a2 k, LeO (impl_RunWord.f k a0 a1 a2) (impl_RunWord.f (k + 1) a0 a1 a2) := by
  intro a0 a1 a2 k
  obtain ⟨ih0, ih1⟩ := impl_RunWord.mono_l k
  unfold impl_RunWord.f
  repeat' first|exact ih0 _ _ _ _|exact ih1 _ _ _ _|exact impl_SurfaceOk.mono _ _ _|exact impl_WordOk.mono _ _|exact impl_letterSurface.mono _ _ _ _|exact lo_|refine LeO.ite ?_ ?_|refine LeO.bind ?_ (fun _ => ?_)
set_option maxHeartbeats 8000000 in
set_option maxRecDepth 100000 in
theorem impl_RunWord.calls (k : Nat) (A0_0 : Option Addr) (c0_0 : Nat) (l0_0 : List Int) (A0_1 : Option Addr) (c0_1 : Nat) (l0_1 : List Int) (a1 : ByteArray) (r1 : List Int) (r2 : List Int) (r3 : Bool) (w : World) (hr0_0 : Kd.C (Kd.int .i64) w A0_0 l0_0.length l0_0) (hc0_0 : l0_0.length ≤ c0_0) (hr0_1 : Kd.C (Kd.int .i64) w A0_1 l0_1.length l0_1) (hc0_1 : l0_1.length ≤ c0_1) (h : impl_RunWord.f k l0_0 l0_1 a1 = some (r1, r2, r3)) :
    Calls Try.prog 51 #[.agg #[.slice A0_0 l0_0.length c0_0, .slice A0_1 l0_1.length c0_1], .string a1] w fun e w' => ∃ v0_ v1_ : Value, e = .returned (.tuple #[.agg #[v0_, v1_], .bool r3]) ∧ Kd.R (Kd.int .i64) 3 w' w.heap.size (fun k_ => some k_ ≠ (v1_ : Value).ownBlock) v0_ r1 ∧ Kd.R (Kd.int .i64) 3 w' w.heap.size (fun k_ => some k_ ≠ (v0_ : Value).ownBlock) v1_ r2 ∧ Below w.heap.size w w' := by
  have hu27 := Try.underlying27
  have HR0_0 := Aside0.mk hr0_0
  have HC0_0 := Aside0.mk hc0_0
  clear hr0_0 hc0_0
  have HR0_1 := Aside0.mk hr0_1
  have HC0_1 := Aside0.mk hc0_1
  clear hr0_1 hc0_1
  have HB := Aside0.mk (Below.refl w.heap.size w)
  have H := h
  unfold impl_RunWord.f at H
  clear h
  have HC3 := Aside0.mk H
  clear H
  go_enter Try.func51, Try.ntmps51
  go_upto_region 1 with (first | ((with_reducible refine gate_dst (N := 2) rfl ?_); refine bx_ 2 #[.slice A0_0 l0_0.length c0_0, .slice A0_1 l0_1.length c0_1] 27 ?_; intro gb1423 hg w4 hbox hb; have BK1423 := Aside0.mk hbox; have GW1423 := gw_ w hg; have GE1423 := GW1423; replace HB := b1_ hb; clear hb hbox hg) | ((with_reducible refine gate_dst (N := 4) rfl ?_); refine bx_ 4 #[.slice none 0 0, .slice none 0 0] 27 ?_; intro gb1424 hg w5 hbox hb; have BK1424 := Aside0.mk hbox; have GW1424 := gw_ w hg; have GE1424 := GW1424; replace HB := b1_ hb; have NB1423_1424 := gN_ BK1423 hg; have NB1424_1423 := gP_ BK1423 hg; replace BK1423 := bb_ BK1423 hb; clear hb hbox hg))
  (try simp only [Act.put, List.setIfInBounds_toArray, List.set_cons_zero, List.set_cons_succ])
  go_cut [15] (fun v15 wc => ∃ (kq : Nat) (x15_2 : Bool), v15 = .bool x15_2 ∧ Aside0 (impl_RunWord.j0 kq a1 x15_2 l0_0 l0_1 = some (r1, r2, r3)) ∧ Aside0 (kq ≤ k) ∧ Aside0 (wc.heap[gb1423]? = some (.cells #[(.slice A0_0 l0_0.length c0_0), (.slice A0_1 l0_1.length c0_1)] 27 (0, 0))) ∧ Aside0 (wc.heap[gb1424]? = some (.cells #[(.slice none 0 0), (.slice none 0 0)] 27 (0, 0))) ∧ Aside0 (Below w.heap.size w wc))
  case first =>
    have H := HC3.out
    clear HC3
    obtain ⟨t1425, A6, H⟩ := bi_ H
    by_cases c7 : t1425 = true
    · subst c7
      rw [if_pos rfl] at H
      obtain ⟨t1426, A8, H⟩ := bi_ H
      have H' := Aside0.mk H
      clear H
      have hnb9 := NB1423_1424.out
      have hnc9 := NB1424_1423.out
      obtain ⟨hcz10_0, hcz10_1, hfz10_0, hfz10_1⟩ := c2_ BK1423
      go_wp2_with (first | ((with_reducible refine gate_callee (f := 65) rfl ?_); refine gL_ (some 9) Try.func65 #[.agg #[.slice A0_0 l0_0.length c0_0, .slice A0_1 l0_1.length c0_1]] rfl qa_ ?_; (with_reducible refine (impl_SurfaceOk.calls k _ _ l0_0 _ _ l0_1 true _ (cb_ HR0_0) HC0_0.out (cb_ HR0_1) HC0_1.out A6.out).mono ?_); rintro e w11 ⟨rfl, hb⟩; refine ⟨_, rfl, ?_⟩; replace BK1423 := bb_ BK1423 hb; replace BK1424 := bb_ BK1424 hb; replace HB := b1_ hb; clear hb) | (go_at_call 92; (with_reducible refine (impl_WordOk.calls k a1 t1426 _ A8.out).mono ?_); rintro e w12 ⟨rfl, hb⟩; replace BK1423 := bb_ BK1423 hb; replace BK1424 := bb_ BK1424 hb; replace HB := b1_ hb; clear hb))
      go_meet
      case rel => exact ⟨_, (!t1426), qc_, H', ⟨qd_⟩, ⟨(kk_ BK1423)⟩, ⟨(kk_ BK1424)⟩, ⟨hB_⟩⟩
    · replace c7 := Bool.eq_false_iff.mpr c7
      subst c7
      have H1 : (impl_RunWord.j0 k a1 true l0_0 l0_1) = some (r1, r2, r3) := by rw [if_neg (show ¬ (false = true) by decide)] at H; exact H
      clear H
      have H := H1
      clear H1
      have H' := Aside0.mk H
      clear H
      have hnb13 := NB1423_1424.out
      have hnc13 := NB1424_1423.out
      obtain ⟨hcz14_0, hcz14_1, hfz14_0, hfz14_1⟩ := c2_ BK1423
      go_wp2_with (first | ((with_reducible refine gate_callee (f := 65) rfl ?_); refine gL_ (some 9) Try.func65 #[.agg #[.slice A0_0 l0_0.length c0_0, .slice A0_1 l0_1.length c0_1]] rfl qa_ ?_; (with_reducible refine (impl_SurfaceOk.calls k _ _ l0_0 _ _ l0_1 false _ (cb_ HR0_0) HC0_0.out (cb_ HR0_1) HC0_1.out A6.out).mono ?_); rintro e w15 ⟨rfl, hb⟩; refine ⟨_, rfl, ?_⟩; replace BK1423 := bb_ BK1423 hb; replace BK1424 := bb_ BK1424 hb; replace HB := b1_ hb; clear hb))
      go_meet
      case rel => exact ⟨_, (true), qc_, H', ⟨qd_⟩, ⟨(kk_ BK1423)⟩, ⟨(kk_ BK1424)⟩, ⟨hB_⟩⟩
  case rest =>
    clear HC3
    obtain ⟨kq, x15_2, rfl, HA, HJ2, BK1423, BK1424, HB⟩ := hcut
    cases kq with
    | zero => exact absurd HA.out (by simp [impl_RunWord.j0])
    | succ kj2 =>
      have H := HA.out
      clear HA
      simp only [impl_RunWord.j0] at H
      by_cases c16 : x15_2 = true
      · subst c16
        rw [if_pos rfl] at H
        simp only [Option.some.injEq, Prod.mk.injEq] at H
        obtain ⟨rfl, rfl, rfl⟩ := H
        have hnb17 := NB1424_1423.out
        have hnc17 := NB1423_1424.out
        obtain ⟨hcz18_0, hcz18_1, hfz18_0, hfz18_1⟩ := c2_ BK1424
        go_wp2
        refine bodyPost_ret (results_ct rfl _ _ gb1424 27 #[.slice none 0 0, .slice none 0 0] (0, 0) _ rfl qp_ Try.underlying27 rfl (by kernel_rfl)) rfl ?_
        exact ⟨_, _, qb_, by first | exact Kd.R_nil _ _ _ _ _ | exact Kd.N_nil _ _ _ _ _ | exact Kd.V_nil _ _ _ _ _ | exact Kd.Q_nil _ _ _ _ _ | exact Kd.S_nil _ _ _ _ _, by first | exact Kd.R_nil _ _ _ _ _ | exact Kd.N_nil _ _ _ _ _ | exact Kd.V_nil _ _ _ _ _ | exact Kd.Q_nil _ _ _ _ _ | exact Kd.S_nil _ _ _ _ _, hB_⟩
      · replace c16 := Bool.eq_false_iff.mpr c16
        subst c16
        have H1 : ((impl_copySurface.f l0_0 l0_1).bind fun bt1427 => (impl_RunWord.l0 kj2 a1 0 bt1427.1 bt1427.2)) = some (r1, r2, r3) := by rw [if_neg (show ¬ (false = true) by decide)] at H; exact H
        clear H
        have H := H1
        clear H1
        obtain ⟨⟨t1427, t1430⟩, A19, H⟩ := bi_ H
        try dsimp only at H
        have H' := Aside0.mk H
        clear H
        have hnb20 := NB1423_1424.out
        have hnc20 := NB1424_1423.out
        obtain ⟨hcz21_0, hcz21_1, hfz21_0, hfz21_1⟩ := c2_ BK1423
        go_wp2_with (first | ((with_reducible refine gate_callee (f := 95) rfl ?_); refine gL_ (some 18) Try.func95 #[.agg #[.slice A0_0 l0_0.length c0_0, .slice A0_1 l0_1.length c0_1]] rfl qa_ ?_; (with_reducible refine (impl_copySurface.calls _ _ l0_0 _ _ l0_1 t1427 t1430 _ (cb_ HR0_0) HC0_0.out (cb_ HR0_1) HC0_1.out A19.out).mono ?_); rintro e w22 ⟨v1428, v1431, rfl, ho0, ho1, hb⟩; refine ⟨_, rfl, ?_⟩; have HO1429 := rl_ w ho0; have HO1432 := rl_ w ho1; replace BK1423 := bb_ BK1423 hb; replace BK1424 := bb_ BK1424 hb; replace HB := b1_ hb; clear hb ho0 ho1) | ((with_reducible refine gate_dst (N := 6) rfl ?_); refine bx_ 6 #[.slice none 0 0, .slice none 0 0] 27 ?_; intro gb1433 hg w23 hbox hb; replace HO1429 := rb_ HO1429 hb; replace HO1432 := rb_ HO1432 hb; have BK1433 := Aside0.mk hbox; have GW1433 := gw_ w hg; have GE1433 := GW1433; replace HB := b1_ hb; have NB1423_1433 := gN_ BK1423 hg; have NB1433_1423 := gP_ BK1423 hg; replace BK1423 := bb_ BK1423 hb; have NB1424_1433 := gN_ BK1424 hg; have NB1433_1424 := gP_ BK1424 hg; replace BK1424 := bb_ BK1424 hb; clear hb hbox hg; obtain ⟨Ao24, co24, eo24⟩ := Kd.R_slice HO1429.out; subst eo24; have hnb25 := NB1433_1423.out; have hnc25 := NB1423_1433.out; have hnb26 := NB1433_1424.out; have hnc26 := NB1424_1433.out; obtain ⟨hcz27_0, hcz27_1, hfz27_0, hfz27_1⟩ := c2_ BK1433; obtain ⟨Ao28, co28, eo28⟩ := Kd.R_slice HO1432.out; subst eo28))
        go_loopg [7] kj2 (fun kq v7 w' => ∃ (x7_2 : Int) (x1434000_2 : List Int) (x1434001_2 : List Int) (u1434000 : Value) (u1434001 : Value), v7 = .int .i64 x7_2 ∧ Aside0 (impl_RunWord.l0 kq a1 x7_2 x1434000_2 x1434001_2 = some (r1, r2, r3)) ∧ Aside0 (kq ≤ kj2) ∧ Aside0 (Kd.R (Kd.int .i64) 3 w' w.heap.size (fun k_ => some k_ ≠ (u1434001 : Value).ownBlock) u1434000 x1434000_2) ∧ Aside0 (Kd.R (Kd.int .i64) 3 w' w.heap.size (fun k_ => some k_ ≠ (u1434000 : Value).ownBlock) u1434001 x1434001_2) ∧ Aside0 (w'.heap[gb1423]? = some (.cells #[(.slice A0_0 l0_0.length c0_0), (.slice A0_1 l0_1.length c0_1)] 27 (0, 0))) ∧ Aside0 (w'.heap[gb1424]? = some (.cells #[(.slice none 0 0), (.slice none 0 0)] 27 (0, 0))) ∧ Aside0 (w'.heap[gb1433]? = some (.cells #[u1434000, u1434001] 27 (0, 0))) ∧ Aside0 (Below w.heap.size w w'))
        case atStart => exact ⟨(0), (t1427), (t1430), (.slice Ao24 t1427.length co24), (.slice Ao28 t1430.length co28), qc_, H', ⟨Nat.le_refl _⟩, ⟨(rw_ (fa_ HO1429 BK1433))⟩, ⟨(rw_ (fa_ HO1432 BK1433))⟩, ⟨by (with_reducible repeat (first | refine blk_drewN ?_ _ | refine blk_drew ?_ | refine blk_alloc ?_ _)); refine blk_far ?_ NB1423_1433.out _; (with_reducible repeat (first | refine blk_drewN ?_ _ | refine blk_drew ?_ | refine blk_alloc ?_ _)); refine blk_far ?_ NB1423_1433.out _; (with_reducible repeat (first | refine blk_drewN ?_ _ | refine blk_drew ?_ | refine blk_alloc ?_ _)); exact BK1423.out⟩, ⟨by (with_reducible repeat (first | refine blk_drewN ?_ _ | refine blk_drew ?_ | refine blk_alloc ?_ _)); refine blk_far ?_ NB1424_1433.out _; (with_reducible repeat (first | refine blk_drewN ?_ _ | refine blk_drew ?_ | refine blk_alloc ?_ _)); refine blk_far ?_ NB1424_1433.out _; (with_reducible repeat (first | refine blk_drewN ?_ _ | refine blk_drew ?_ | refine blk_alloc ?_ _)); exact BK1424.out⟩, ⟨qp_⟩, ⟨hB_⟩⟩
        case round =>
          clear H'
          obtain ⟨x7_2, x1434000_2, x1434001_2, u1434000, u1434001, rfl, HA, HK2, HO_1434000, HO_1434001, BK1423, BK1424, BK1433, HB⟩ := hrel
          cases gk with
          | zero => exact absurd HA.out (by simp [impl_RunWord.l0])
          | succ k2 =>
            have H := HA.out
            clear HA
            simp only [impl_RunWord.l0] at H
            by_cases c29 : x7_2 < (a1.size : Int)
            · rw [if_pos c29] at H
              have c29b0 := decide_eq_true c29
              clear c29
              have c30 := cp_ H
              replace H := ca_ H
              have c30b0 := decide_eq_true c30
              clear c30
              obtain ⟨⟨t1434, t1437⟩, A32, H⟩ := bi_ H
              try dsimp only at H
              have H' := Aside0.mk H
              clear H
              try go_wp2
              replace HO_1434000 := Aside0.mk (Kd.R_drew HO_1434000.out)
              replace HO_1434001 := Aside0.mk (Kd.R_drew HO_1434001.out)
              replace BK1423 := Aside0.mk (blk_drew BK1423.out)
              replace BK1424 := Aside0.mk (blk_drew BK1424.out)
              replace BK1433 := Aside0.mk (blk_drew BK1433.out)
              replace HB := Aside0.mk (below_drew1 HB.out)
              have p31 : 0 ≤ (x7_2 : Int) := of_decide_eq_true qe_
              have q31 : x7_2 < (a1.size : Int) := of_decide_eq_true qe_
              have hx31 := bt_at a1 x7_2
              replace p31 := eq_true p31
              replace q31 := eq_true q31
              obtain ⟨Ao34, co34, eo34⟩ := Kd.R_slice HO_1434000.out
              (first | subst eo34 | (injection eo34 with f1_ f2_ f3_; have f4_ := f1_.symm; have f5_ := f3_.symm; clear f1_ f2_ f3_; subst f4_; subst f5_))
              obtain ⟨Ao35, co35, eo35⟩ := Kd.R_slice HO_1434001.out
              (first | subst eo35 | (injection eo35 with f1_ f2_ f3_; have f4_ := f1_.symm; have f5_ := f3_.symm; clear f1_ f2_ f3_; subst f4_; subst f5_))
              refine start_ (n := 6) (S := fun w' => w'.cell? ⟨gb1433, 0, none⟩ = some (.slice Ao34 x1434000_2.length co34) ∧ w'.cell? ⟨gb1433, 1, none⟩ = some (.slice Ao35 x1434001_2.length co35)) (ds := [5]) (bl_ 6 0) (by kernel_rfl) rfl (by kernel_rfl) ⟨cz0_ BK1433, cz1_ BK1433⟩ (fun hHeld => ?_)
              generalize wr.drew = w33 at HO_1434000 HO_1434001 BK1423 BK1424 BK1433 HB hHeld ⊢
              refine pure_ (i := 1) (N := some 26) (v := ?_) (a' := ?_) (bl_ 6 2) rfl rfl (by kernel_rfl) (fun _ _ _ h => h) (Or.inl ⟨by rfl, ?_⟩) ?_ ?_
              rotate_left
              · intro w'
                go_simp
                with_reducible rfl
              rotate_left
              · simp only [Act.put, List.setIfInBounds_toArray, List.set_cons_zero, List.set_cons_succ, i64_w, i32_w]
                rfl
              refine pure_ (i := 2) (N := some 27) (v := ?_) (a' := ?_) (bl_ 6 6) rfl rfl (by kernel_rfl) (fun _ _ _ h => h) (Or.inl ⟨by rfl, ?_⟩) ?_ ?_
              rotate_left
              · intro w'
                go_simp
                with_reducible rfl
              rotate_left
              · simp only [Act.put, List.setIfInBounds_toArray, List.set_cons_zero, List.set_cons_succ, i64_w, i32_w]
                rfl
              refine take_ (i := 0) (N := some 25) (v := ?_) (a' := ?_) (bl_ 6 7) rfl rfl (by kernel_rfl) (fun _ _ _ h => h) (Or.inl ⟨by rfl, ?_⟩) hHeld ?_ ?_
              rotate_left
              · rintro w' ⟨s0, s1⟩
                go_simp
                with_reducible rfl
              rotate_left
              · simp only [Act.put, List.setIfInBounds_toArray, List.set_cons_zero, List.set_cons_succ, i64_w, i32_w]
                rfl
              refine take_ (i := 3) (N := some 28) (v := ?_) (a' := ?_) (bl_ 6 15) rfl rfl (by kernel_rfl) (fun _ _ _ h => h) (Or.inl ⟨by rfl, ?_⟩) hHeld ?_ ?_
              rotate_left
              · rintro w' ⟨s0, s1⟩
                go_simp
                with_reducible rfl
              rotate_left
              · simp only [Act.put, List.setIfInBounds_toArray, List.set_cons_zero, List.set_cons_succ, i64_w, i32_w]
                rfl
              refine one_ (i := 4) (N := some 29) (bl_ 6 31) rfl rfl (by kernel_rfl) (by decide) (fun K hK => ?_)
              refine gO_ Try.func96 #[.agg #[.slice Ao34 x1434000_2.length co34, .slice Ao35 x1434001_2.length co35], .int .u8 (bt a1 x7_2)] (by rfl) rfl rfl qa_ ?_
              with_reducible refine (impl_letterSurface.calls k2 _ _ x1434000_2 _ _ x1434001_2 (bt a1 x7_2) t1434 t1437 _ (cr_ HO_1434000) ((Kd.R_reads' HO_1434000.out).2.1) (cr_ HO_1434001) ((Kd.R_reads' HO_1434001.out).2.1) A32.out).mono ?_
              rintro e w36 ⟨v1435, v1438, rfl, ho0, ho1, hb⟩
              refine ⟨_, rfl, ?_⟩
              have HO1436 := Aside0.mk (Kd.R_lower (Kd.R_new' (Kd.R_new' ho0 (Kd.R_lt (rr_ HO_1434000))) (Kd.R_lt (rr_ HO_1434001))) (below_size hB_))
              have HO1439 := Aside0.mk (Kd.R_lower (Kd.R_new' (Kd.R_new' ho1 (Kd.R_lt (rr_ HO_1434000))) (Kd.R_lt (rr_ HO_1434001))) (below_size hB_))
              replace HO_1434000 := Aside0.mk (Kd.R_mono (Kd.R_told (Kd.R_told (Kd.R_old (rr_ HO_1434000) hb) (Kd.R_base ho0)) (Kd.R_base ho1)) (fun _ h_ => h_.1))
              replace HO_1434001 := Aside0.mk (Kd.R_mono (Kd.R_told (Kd.R_told (Kd.R_old (rr_ HO_1434001) hb) (Kd.R_base ho0)) (Kd.R_base ho1)) (fun _ h_ => h_.1))
              replace BK1423 := bb_ BK1423 hb
              replace BK1424 := bb_ BK1424 hb
              replace BK1433 := bb_ BK1433 hb
              replace HB := b1_ hb
              clear hb ho0 ho1
              obtain ⟨Ao37, co37, eo37⟩ := Kd.R_slice HO1436.out
              (first | subst eo37 | (injection eo37 with f1_ f2_ f3_; have f4_ := f1_.symm; have f5_ := f3_.symm; clear f1_ f2_ f3_; subst f4_; subst f5_))
              obtain ⟨Ao39, co39, eo39⟩ := Kd.R_slice HO1439.out
              (first | subst eo39 | (injection eo39 with f1_ f2_ f3_; have f4_ := f1_.symm; have f5_ := f3_.symm; clear f1_ f2_ f3_; subst f4_; subst f5_))
              refine hK.out _ _ ⟨cz0_ BK1433, cz1_ BK1433⟩ (fun hHeld => ?_)
              clear hK K
              refine no_ (some 29) ?_
              refine last_ (i := 5) (N := none) (bl_ 6 63) rfl rfl (by kernel_rfl) (by decide) (fun K hK => ?_)
              have hs38 : w36.cell? ⟨gb1433, 0, none⟩ = some (.slice Ao34 x1434000_2.length co34) := cz0_ BK1433
              have hfs38 := blk_frozen BK1433.out 0
              have hns38_0 := NB1423_1433.out
              have hns38_1 := NB1424_1433.out
              have hms38_0 := NB1433_1423.out
              have hms38_1 := NB1433_1424.out
              have hs40 : w36.cell? ⟨gb1433, 1, none⟩ = some (.slice Ao35 x1434001_2.length co35) := cz1_ BK1433
              have hfs40 := blk_frozen BK1433.out 1
              have hns40_0 := NB1423_1433.out
              have hns40_1 := NB1424_1433.out
              have hms40_0 := NB1433_1423.out
              have hms40_1 := NB1433_1424.out
              refine skip_ (w1 := ?_) (by rfl) rfl ?_ ?_
              rotate_left
              · go_simp
                rfl
              refine hK.out _ _ ?_
              clear hK K
              refine done_ (by kernel_rfl) ?_
              try go_wp2
              go_roundg k2
              case measure => have := HJ2.out; have := HK2.out; omega
              case rel => exact ⟨(wrap64 (x7_2 + 1)), (t1434), (t1437), (.slice Ao37 t1434.length co37), (.slice Ao39 t1437.length co39), qc_, H', ⟨by have := HJ2.out; have := HK2.out; omega⟩, ⟨(rw_ (Kd.R_mono (fa_ HO1436 BK1433) (fun _ hk => hk.1.1)))⟩, ⟨(rw_ (Kd.R_mono (fa_ HO1439 BK1433) (fun _ hk => hk.1.1)))⟩, ⟨by (with_reducible repeat (first | refine blk_drewN ?_ _ | refine blk_drew ?_ | refine blk_alloc ?_ _)); refine blk_far ?_ NB1423_1433.out _; (with_reducible repeat (first | refine blk_drewN ?_ _ | refine blk_drew ?_ | refine blk_alloc ?_ _)); refine blk_far ?_ NB1423_1433.out _; (with_reducible repeat (first | refine blk_drewN ?_ _ | refine blk_drew ?_ | refine blk_alloc ?_ _)); exact BK1423.out⟩, ⟨by (with_reducible repeat (first | refine blk_drewN ?_ _ | refine blk_drew ?_ | refine blk_alloc ?_ _)); refine blk_far ?_ NB1424_1433.out _; (with_reducible repeat (first | refine blk_drewN ?_ _ | refine blk_drew ?_ | refine blk_alloc ?_ _)); refine blk_far ?_ NB1424_1433.out _; (with_reducible repeat (first | refine blk_drewN ?_ _ | refine blk_drew ?_ | refine blk_alloc ?_ _)); exact BK1424.out⟩, ⟨qp_⟩, ⟨hB_⟩⟩
            · rw [if_neg c29] at H
              have c29b0 := decide_eq_false c29
              clear c29
              simp only [Option.some.injEq, Prod.mk.injEq] at H
              obtain ⟨rfl, rfl, rfl⟩ := H
              have hnb41 := NB1433_1423.out
              have hnc41 := NB1423_1433.out
              have hnb42 := NB1433_1424.out
              have hnc42 := NB1424_1433.out
              obtain ⟨hcz43_0, hcz43_1, hfz43_0, hfz43_1⟩ := c2_ BK1433
              obtain ⟨Ao44, co44, eo44⟩ := Kd.R_slice HO_1434000.out
              subst eo44
              have hnb45 := NB1424_1423.out
              have hnc45 := NB1423_1424.out
              obtain ⟨hcz46_0, hcz46_1, hfz46_0, hfz46_1⟩ := c2_ BK1424
              obtain ⟨Ao47, co47, eo47⟩ := Kd.R_slice HO_1434001.out
              subst eo47
              go_wp2
              refine bodyPost_ret (results_ct rfl _ _ gb1424 27 #[.slice Ao44 x1434000_2.length co44, .slice Ao47 x1434001_2.length co47] (0, 0) _ rfl qp_ Try.underlying27 rfl (by kernel_rfl)) rfl ?_
              exact ⟨_, _, qb_, (rw_ (fa_ HO_1434000 BK1424)), (rw_ (fa_ HO_1434001 BK1424)), hB_⟩
end Go.Proofs.Ytbdnellgioimbaa.A
end
section
namespace Go.Proofs.Ytbdnellgioimbaa.A
open Go.RowKit Go.Proofs.YtbdnellgioimbaaW.PrintWords Go.Proofs.YtbdnellgioimbaaW.PrintLast Go.Proofs.YtbdnellgioimbaaW.PrintMore
attribute [local go_sem] max2_int min2_int max_two min_two max_three min_three max_four min_four
set_option linter.unusedVariables false
set_option linter.unusedSimpArgs false
def impl_AroundOf.f (k : Nat) (l0_0 : List Int) (l0_1 : List Int) : Option (List Int) := (impl_SurfaceOk.f k l0_0 l0_1).bind fun t449 => (if t449 = true then ((impl_ThenPerm.f k l0_0 l0_1).bind fun t450 => ((impl_InversePerm.f k l0_0).bind fun t453 => ((impl_InversePerm.f k l0_1).bind fun t456 => ((impl_ThenPerm.f k t453 t456).bind fun t459 => ((impl_ThenPerm.f k t450 t459).bind fun t462 => (some t462)))))) else (some ([] : List Int)))
theorem impl_AroundOf.mono : ∀ a0 a1 k, LeO (impl_AroundOf.f k a0 a1) (impl_AroundOf.f (k + 1) a0 a1) := by
  intro a0 a1 k
  unfold impl_AroundOf.f
  repeat' first|exact impl_InversePerm.mono _ _|exact impl_SurfaceOk.mono _ _ _|exact impl_ThenPerm.mono _ _ _|exact lo_|refine LeO.ite ?_ ?_|refine LeO.bind ?_ (fun _ => ?_)
def impl_AroundOf.T3 : Bool × List (List Nat × List Nat) := (true, [([], []), ([0], [0]), ([], []), ([2], [2]), ([1, 3], [1, 3]), ([], []), ([5], [5]), ([6, 4], [6]), ([], []), ([8], [8]), ([9, 7], [9]), ([7, 10, 10], [7, 10]), ([4, 11, 11], [4, 11]), ([12, 12, 0, 1, 2, 3, 4, 5, 6, 7, 8, 9, 10, 11, 12], [12])])
def impl_AroundOf.B3 : List Nat := [0, 1, 0, 4, 15, 0, 32, 127, 0, 256, 1023, 2047, 4095, 8191]
theorem impl_AroundOf.tab3 : rtab .any (opsOf Try.f77 3) = impl_AroundOf.T3 := by kernel_rfl
theorem impl_AroundOf.bits3 : waitsOk impl_AroundOf.T3.2 impl_AroundOf.B3 = true := by kernel_rfl
set_option maxHeartbeats 8000000 in
set_option maxRecDepth 100000 in
theorem impl_AroundOf.calls (k : Nat) (A0_0 : Option Addr) (c0_0 : Nat) (l0_0 : List Int) (A0_1 : Option Addr) (c0_1 : Nat) (l0_1 : List Int) (r : List Int) (w : World) (hr0_0 : Kd.C (Kd.int .i64) w A0_0 l0_0.length l0_0) (hc0_0 : l0_0.length ≤ c0_0) (hr0_1 : Kd.C (Kd.int .i64) w A0_1 l0_1.length l0_1) (hc0_1 : l0_1.length ≤ c0_1) (h : impl_AroundOf.f k l0_0 l0_1 = some r) :
    Calls Try.prog 77 #[.agg #[.slice A0_0 l0_0.length c0_0, .slice A0_1 l0_1.length c0_1]] w fun e w' => ∃ v0_ : Value, e = .returned (v0_) ∧ Kd.R (Kd.int .i64) 3 w' w.heap.size (fun _ => True) v0_ r ∧ Below w.heap.size w w' := by
  have hu27 := Try.underlying27
  have HR0_0 := Aside0.mk hr0_0
  have HC0_0 := Aside0.mk hc0_0
  clear hr0_0 hc0_0
  have HR0_1 := Aside0.mk hr0_1
  have HC0_1 := Aside0.mk hc0_1
  clear hr0_1 hc0_1
  have HB := Aside0.mk (Below.refl w.heap.size w)
  have H := h
  unfold impl_AroundOf.f at H
  clear h
  obtain ⟨t449, A2, H⟩ := bi_ H
  by_cases c3 : t449 = true
  · subst c3
    rw [if_pos rfl] at H
    obtain ⟨t450, A4, H⟩ := bi_ H
    obtain ⟨t453, A5, H⟩ := bi_ H
    obtain ⟨t456, A6, H⟩ := bi_ H
    obtain ⟨t459, A7, H⟩ := bi_ H
    obtain ⟨t462, A8, H⟩ := bi_ H
    obtain rfl := Option.some.inj H
    go_enter Try.func77, Try.ntmps77
    try go_wp2_with (first | ((with_reducible refine gate_dst (N := 1) rfl ?_); refine bx_ 1 #[.slice A0_0 l0_0.length c0_0, .slice A0_1 l0_1.length c0_1] 27 ?_; intro gb448 hg w9 hbox hb; have BK448 := Aside0.mk hbox; have GW448 := gw_ w hg; have GE448 := GW448; replace HB := b1_ hb; clear hb hbox hg; obtain ⟨hcz10_0, hcz10_1, hfz10_0, hfz10_1⟩ := c2_ BK448) | ((with_reducible refine gate_callee (f := 65) rfl ?_); refine gL_ (some 4) Try.func65 #[.agg #[.slice A0_0 l0_0.length c0_0, .slice A0_1 l0_1.length c0_1]] rfl qa_ ?_; (with_reducible refine (impl_SurfaceOk.calls k _ _ l0_0 _ _ l0_1 true _ (cb_ HR0_0) HC0_0.out (cb_ HR0_1) HC0_1.out A2.out).mono ?_); rintro e w11 ⟨rfl, hb⟩; refine ⟨_, rfl, ?_⟩; replace BK448 := bb_ BK448 hb; replace HB := b1_ hb; clear hb))
    replace BK448 := Aside0.mk (blk_drew BK448.out)
    replace HB := Aside0.mk (below_drew1 HB.out)
    refine start_ (n := 14) (S := fun w' => w'.cell? ⟨gb448, 0, none⟩ = some (.slice A0_0 l0_0.length c0_0) ∧ w'.cell? ⟨gb448, 1, none⟩ = some (.slice A0_1 l0_1.length c0_1)) (ds := []) (bl_ 14 0) (by kernel_rfl) rfl (by kernel_rfl) ⟨cz0_ BK448, cz1_ BK448⟩ (fun hHeld => ?_); refine with_tabW impl_AroundOf.tab3 impl_AroundOf.bits3 (fun HT_ HW_ => ?_)
    generalize w11.drew = w12 at BK448 HB hHeld ⊢
    refine pu_ 0 (some 6) (bl_ 14 1) HT_ ?_
    refine pu_ 2 (some 8) (bl_ 14 5) HT_ ?_
    refine pu_ 5 (some 11) (bl_ 14 37) HT_ ?_
    refine pu_ 8 (some 14) (bl_ 14 293) HT_ ?_
    refine ta_ 1 (some 7) (bl_ 14 295) HT_ HW_ hHeld ?_
    refine ta_ 3 (some 9) (bl_ 14 303) HT_ HW_ hHeld ?_
    refine ta_ 6 (some 12) (bl_ 14 367) HT_ HW_ hHeld ?_
    refine ta_ 9 (some 15) (bl_ 14 879) HT_ HW_ hHeld ?_
    refine on_ 4 (some 10) (bl_ 14 895) HT_ (fun K hK => ?_)
    refine gO_ Try.func118 #[.slice A0_0 l0_0.length c0_0, .slice A0_1 l0_1.length c0_1] (by rfl) rfl rfl qa_ ?_
    with_reducible refine (impl_ThenPerm.calls k _ _ l0_0 _ _ l0_1 t450 _ (cb_ HR0_0) HC0_0.out (cb_ HR0_1) HC0_1.out A4.out).mono ?_
    rintro e w13 ⟨v451, rfl, ho0, hb⟩
    refine ⟨_, rfl, ?_⟩
    have HO452 := rl_ w ho0
    replace BK448 := bb_ BK448 hb
    replace HB := b1_ hb
    clear hb ho0
    refine hK.out _ _ ⟨cz0_ BK448, cz1_ BK448⟩ (fun hHeld => ?_)
    clear hK K
    refine no_ (some 10) ?_
    refine on_ 7 (some 13) (bl_ 14 1023) HT_ (fun K hK => ?_)
    refine gO_ Try.func119 #[.slice A0_0 l0_0.length c0_0] (by rfl) rfl rfl qa_ ?_
    with_reducible refine (impl_InversePerm.calls k _ _ l0_0 t453 _ (cb_ HR0_0) HC0_0.out A5.out).mono ?_
    rintro e w14 ⟨v454, rfl, ho0, hb⟩
    refine ⟨_, rfl, ?_⟩
    have HO455 := Aside0.mk (Kd.R_lower (Kd.R_new' ho0 (Kd.R_lt (rr_ HO452))) (below_size hB_))
    replace HO452 := Aside0.mk (Kd.R_elder' (rr_ HO452) (Kd.R_base ho0) hb)
    replace BK448 := bb_ BK448 hb
    replace HB := b1_ hb
    clear hb ho0
    refine hK.out _ _ ⟨cz0_ BK448, cz1_ BK448⟩ (fun hHeld => ?_)
    clear hK K
    refine no_ (some 13) ?_
    refine on_ 10 (some 16) (bl_ 14 2047) HT_ (fun K hK => ?_)
    refine gO_ Try.func119 #[.slice A0_1 l0_1.length c0_1] (by rfl) rfl rfl qa_ ?_
    with_reducible refine (impl_InversePerm.calls k _ _ l0_1 t456 _ (cb_ HR0_1) HC0_1.out A6.out).mono ?_
    rintro e w15 ⟨v457, rfl, ho0, hb⟩
    refine ⟨_, rfl, ?_⟩
    have HO458 := Aside0.mk (Kd.R_lower (Kd.R_new' (Kd.R_new' ho0 (Kd.R_lt (rr_ HO452))) (Kd.R_lt (rr_ HO455))) (below_size hB_))
    replace HO452 := Aside0.mk (Kd.R_elder' (rr_ HO452) (Kd.R_base ho0) hb)
    replace HO455 := Aside0.mk (Kd.R_elder' (rr_ HO455) (Kd.R_base ho0) hb)
    replace BK448 := bb_ BK448 hb
    replace HB := b1_ hb
    clear hb ho0
    obtain ⟨Ao16, co16, eo16⟩ := Kd.R_slice HO455.out
    (first | subst eo16 | (injection eo16 with f1_ f2_ f3_; have f4_ := f1_.symm; have f5_ := f3_.symm; clear f1_ f2_ f3_; subst f4_; subst f5_))
    obtain ⟨Ao17, co17, eo17⟩ := Kd.R_slice HO458.out
    (first | subst eo17 | (injection eo17 with f1_ f2_ f3_; have f4_ := f1_.symm; have f5_ := f3_.symm; clear f1_ f2_ f3_; subst f4_; subst f5_))
    refine hK.out _ _ ⟨cz0_ BK448, cz1_ BK448⟩ (fun hHeld => ?_)
    clear hK K
    refine no_ (some 16) ?_
    refine on_ 11 (some 17) (bl_ 14 4095) HT_ (fun K hK => ?_)
    refine gO_ Try.func118 #[.slice Ao16 t453.length co16, .slice Ao17 t456.length co17] (by rfl) rfl rfl qa_ ?_
    with_reducible refine (impl_ThenPerm.calls k _ _ t453 _ _ t456 t459 _ (cr_ HO455) ((Kd.R_reads' HO455.out).2.1) (cr_ HO458) ((Kd.R_reads' HO458.out).2.1) A7.out).mono ?_
    rintro e w18 ⟨v460, rfl, ho0, hb⟩
    refine ⟨_, rfl, ?_⟩
    have HO461 := Aside0.mk (Kd.R_lower (Kd.R_new' (Kd.R_new' (Kd.R_new' ho0 (Kd.R_lt (rr_ HO452))) (Kd.R_lt (rr_ HO455))) (Kd.R_lt (rr_ HO458))) (below_size hB_))
    replace HO452 := Aside0.mk (Kd.R_elder' (rr_ HO452) (Kd.R_base ho0) hb)
    replace HO455 := Aside0.mk (Kd.R_elder' (rr_ HO455) (Kd.R_base ho0) hb)
    replace HO458 := Aside0.mk (Kd.R_elder' (rr_ HO458) (Kd.R_base ho0) hb)
    replace BK448 := bb_ BK448 hb
    replace HB := b1_ hb
    clear hb ho0
    obtain ⟨Ao19, co19, eo19⟩ := Kd.R_slice HO452.out
    (first | subst eo19 | (injection eo19 with f1_ f2_ f3_; have f4_ := f1_.symm; have f5_ := f3_.symm; clear f1_ f2_ f3_; subst f4_; subst f5_))
    obtain ⟨Ao20, co20, eo20⟩ := Kd.R_slice HO461.out
    (first | subst eo20 | (injection eo20 with f1_ f2_ f3_; have f4_ := f1_.symm; have f5_ := f3_.symm; clear f1_ f2_ f3_; subst f4_; subst f5_))
    refine hK.out _ _ ⟨cz0_ BK448, cz1_ BK448⟩ (fun hHeld => ?_)
    clear hK K
    refine no_ (some 17) ?_
    refine on_ 12 (some 18) (bl_ 14 8191) HT_ (fun K hK => ?_)
    refine gO_ Try.func118 #[.slice Ao19 t450.length co19, .slice Ao20 t459.length co20] (by rfl) rfl rfl qa_ ?_
    with_reducible refine (impl_ThenPerm.calls k _ _ t450 _ _ t459 t462 _ (cr_ HO452) ((Kd.R_reads' HO452.out).2.1) (cr_ HO461) ((Kd.R_reads' HO461.out).2.1) A8.out).mono ?_
    rintro e w21 ⟨v463, rfl, ho0, hb⟩
    refine ⟨_, rfl, ?_⟩
    have HO464 := Aside0.mk (Kd.R_lower (Kd.R_new' (Kd.R_new' (Kd.R_new' (Kd.R_new' ho0 (Kd.R_lt (rr_ HO452))) (Kd.R_lt (rr_ HO455))) (Kd.R_lt (rr_ HO458))) (Kd.R_lt (rr_ HO461))) (below_size hB_))
    replace HO452 := Aside0.mk (Kd.R_elder' (rr_ HO452) (Kd.R_base ho0) hb)
    replace HO455 := Aside0.mk (Kd.R_elder' (rr_ HO455) (Kd.R_base ho0) hb)
    replace HO458 := Aside0.mk (Kd.R_elder' (rr_ HO458) (Kd.R_base ho0) hb)
    replace HO461 := Aside0.mk (Kd.R_elder' (rr_ HO461) (Kd.R_base ho0) hb)
    replace BK448 := bb_ BK448 hb
    replace HB := b1_ hb
    clear hb ho0
    refine hK.out _ _ ⟨cz0_ BK448, cz1_ BK448⟩ (fun hHeld => ?_)
    clear hK K
    refine no_ (some 18) ?_
    refine pu_ 13 (some 2) (bl_ 14 16383) HT_ ?_
    refine done_ (done_of HT_.out (by kernel_rfl)) ?_
    try go_wp2
    go_ret
    exact ⟨_, qb_, (rw_ (Kd.R_mono HO464.out (fun _ hk => trivial))), hB_⟩
  · replace c3 := Bool.eq_false_iff.mpr c3
    subst c3
    have H1 : (some ([] : List Int)) = some r := by rw [if_neg (show ¬ (false = true) by decide)] at H; exact H
    clear H
    have H := H1
    clear H1
    obtain rfl := Option.some.inj H
    go_enter Try.func77, Try.ntmps77
    go_wp2_with (first | ((with_reducible refine gate_dst (N := 1) rfl ?_); refine bx_ 1 #[.slice A0_0 l0_0.length c0_0, .slice A0_1 l0_1.length c0_1] 27 ?_; intro gb448 hg w22 hbox hb; have BK448 := Aside0.mk hbox; have GW448 := gw_ w hg; have GE448 := GW448; replace HB := b1_ hb; clear hb hbox hg; obtain ⟨hcz23_0, hcz23_1, hfz23_0, hfz23_1⟩ := c2_ BK448) | ((with_reducible refine gate_callee (f := 65) rfl ?_); refine gL_ (some 4) Try.func65 #[.agg #[.slice A0_0 l0_0.length c0_0, .slice A0_1 l0_1.length c0_1]] rfl qa_ ?_; (with_reducible refine (impl_SurfaceOk.calls k _ _ l0_0 _ _ l0_1 false _ (cb_ HR0_0) HC0_0.out (cb_ HR0_1) HC0_1.out A2.out).mono ?_); rintro e w24 ⟨rfl, hb⟩; refine ⟨_, rfl, ?_⟩; replace BK448 := bb_ BK448 hb; replace HB := b1_ hb; clear hb))
    go_ret
    exact ⟨_, qb_, by first | exact Kd.R_nil _ _ _ _ _ | exact Kd.N_nil _ _ _ _ _ | exact Kd.V_nil _ _ _ _ _ | exact Kd.Q_nil _ _ _ _ _ | exact Kd.S_nil _ _ _ _ _, hB_⟩
end Go.Proofs.Ytbdnellgioimbaa.A
end
section
namespace Go.Proofs.Ytbdnellgioimbaa.A
open Go.RowKit Go.Proofs.YtbdnellgioimbaaW.PrintWords Go.Proofs.YtbdnellgioimbaaW.PrintLast Go.Proofs.YtbdnellgioimbaaW.PrintMore
attribute [local go_sem] max2_int min2_int max_two min_two max_three min_three max_four min_four
set_option linter.unusedVariables false
set_option linter.unusedSimpArgs false
def slices_Index_int_int.l0 : Nat → List Int → Int → Int → Int → Option (Int)
  | 0, _, _, _, _ => none
  | k + 1, x0, x1, x7, x8 => if x8 < x7 then (if 0 ≤ x8 then (if x8 < (x0.length : Int) then (if x1 = (rd x0 x8) then (some x8) else (slices_Index_int_int.l0 k x0 x1 x7 (wrap64 (x8 + 1)))) else (none)) else (none)) else (some (-1))
def slices_Index_int_int.f (k : Nat) (l0 : List Int) (a1 : Int) : Option (Int) := slices_Index_int_int.l0 k l0 a1 (l0.length : Int) 0
theorem slices_Index_int_int.mono_l : ∀ k, (∀ y0 y1 y2 y3, LeO (slices_Index_int_int.l0 k y0 y1 y2 y3) (slices_Index_int_int.l0 (k + 1) y0 y1 y2 y3))
  | 0 => fun _ _ _ _ r h => by simp [slices_Index_int_int.l0] at h
  | k + 1 => by
    have ih0 := slices_Index_int_int.mono_l k
    · intro y0 y1 y2 y3
      unfold slices_Index_int_int.l0
      repeat' first|exact ih0 _ _ _ _|exact lo_|refine LeO.ite ?_ ?_|refine LeO.bind ?_ (fun _ => ?_)
theorem slices_Index_int_int.mono : ∀ a0 a1 k, LeO (slices_Index_int_int.f k a0 a1) (slices_Index_int_int.f (k + 1) a0 a1) := by
  intro a0 a1 k
  have ih0 := slices_Index_int_int.mono_l k
  unfold slices_Index_int_int.f
  repeat' first|exact ih0 _ _ _ _|exact lo_|refine LeO.ite ?_ ?_|refine LeO.bind ?_ (fun _ => ?_)
set_option maxHeartbeats 8000000 in
set_option maxRecDepth 100000 in
theorem slices_Index_int_int.calls (k : Nat) (A0 : Option Addr) (c0 : Nat) (l0 : List Int) (a1 : Int) (r : Int) (w : World) (hr0 : Kd.C (Kd.int .i64) w A0 l0.length l0) (hc0 : l0.length ≤ c0) (h : slices_Index_int_int.f k l0 a1 = some r) :
    Calls Try.prog 145 #[.slice A0 l0.length c0, .int .i64 a1] w fun e w' => e = .returned (.int .i64 r) ∧ Drawn0 w w' := by
  have HR0 := Aside0.mk hr0
  have HC0 := Aside0.mk hc0
  clear hr0 hc0
  have H := h
  unfold slices_Index_int_int.f at H
  clear h
  have H' := Aside0.mk H
  clear H
  go_enter Try.func145, Try.ntmps145
  go_wp2
  go_loopg [8] k (fun kq v8 w' => ∃ (x8_1 : Int), v8 = .int .i64 x8_1 ∧ Aside0 (slices_Index_int_int.l0 kq l0 a1 (l0.length : Int) x8_1 = some r) ∧ Aside0 (kq ≤ k) ∧ Drawn0 w w')
  case atStart => exact ⟨(0), qc_, H', ⟨Nat.le_refl _⟩, by repeat (first | exact Drawn0.refl _ | apply Drawn0.step)⟩
  case round =>
    clear H'
    obtain ⟨x8_1, rfl, HA, HK1, ⟨m1, rfl⟩⟩ := hrel
    cases gk with
    | zero => exact absurd HA.out (by simp [slices_Index_int_int.l0])
    | succ k1 =>
      have H := HA.out
      clear HA
      simp only [slices_Index_int_int.l0] at H
      by_cases c3 : x8_1 < (l0.length : Int)
      · rw [if_pos c3] at H
        have c3b0 := decide_eq_true c3
        clear c3
        have c4 := cp_ H
        replace H := ca_ H
        have c4b0 := decide_eq_true c4
        clear c4
        have c5 := cp_ H
        replace H := ca_ H
        have c5b0 := decide_eq_true c5
        clear c5
        by_cases c6 : a1 = (rd l0 x8_1)
        · rw [if_pos c6] at H
          have c6b0 : (a1 == (rd l0 x8_1)) = true := beq_iff_eq.mpr c6
          have c6b1 : (a1 != (rd l0 x8_1)) = false := bne_eq_false_iff_eq.mpr c6
          clear c6
          obtain rfl := Option.some.inj H
          have p622 : 0 ≤ (x8_1 : Int) := of_decide_eq_true qe_
          have q622 : x8_1 < (l0.length : Int) := of_decide_eq_true qe_
          obtain ⟨ad622, e622, hx622_0⟩ := Kd.at_int HR0.out x8_1 p622 q622
          cases e622
          replace p622 := eq_true p622
          replace q622 := eq_true q622
          go_wp2
          go_ret
          exact ⟨qc_, by repeat (first | exact Drawn0.refl _ | apply Drawn0.step)⟩
        · rw [if_neg c6] at H
          have c6b0 : (a1 == (rd l0 x8_1)) = false := beq_eq_false_iff_ne.mpr c6
          have c6b1 : (a1 != (rd l0 x8_1)) = true := bne_iff_ne.mpr c6
          have H' := Aside0.mk H
          clear H
          have p622 : 0 ≤ (x8_1 : Int) := of_decide_eq_true qe_
          have q622 : x8_1 < (l0.length : Int) := of_decide_eq_true qe_
          obtain ⟨ad622, e622, hx622_0⟩ := Kd.at_int HR0.out x8_1 p622 q622
          cases e622
          replace p622 := eq_true p622
          replace q622 := eq_true q622
          go_wp2
          go_roundg k1
          case measure => have := HK1.out; omega
          case rel => exact ⟨(wrap64 (x8_1 + 1)), qc_, H', ⟨by have := HK1.out; omega⟩, by repeat (first | exact Drawn0.refl _ | apply Drawn0.step)⟩
      · rw [if_neg c3] at H
        have c3b0 := decide_eq_false c3
        clear c3
        obtain rfl := Option.some.inj H
        go_wp2
        go_ret
        exact ⟨qc_, by repeat (first | exact Drawn0.refl _ | apply Drawn0.step)⟩
end Go.Proofs.Ytbdnellgioimbaa.A
end
section
namespace Go.Proofs.Ytbdnellgioimbaa.A
open Go.RowKit Go.Proofs.YtbdnellgioimbaaW.PrintWords Go.Proofs.YtbdnellgioimbaaW.PrintLast Go.Proofs.YtbdnellgioimbaaW.PrintMore
attribute [local go_sem] max2_int min2_int max_two min_two max_three min_three max_four min_four
set_option linter.unusedVariables false
set_option linter.unusedSimpArgs false
def slices_Contains_int_int.f (k : Nat) (l0 : List Int) (a1 : Int) : Option (Bool) := (slices_Index_int_int.f k l0 a1).bind fun t623 => (some (decide (t623 ≥ 0)))
theorem slices_Contains_int_int.mono : ∀ a0 a1 k, LeO (slices_Contains_int_int.f k a0 a1) (slices_Contains_int_int.f (k + 1) a0 a1) := by
  intro a0 a1 k
  unfold slices_Contains_int_int.f
  repeat' first|exact slices_Index_int_int.mono _ _ _|exact lo_|refine LeO.ite ?_ ?_|refine LeO.bind ?_ (fun _ => ?_)
set_option maxHeartbeats 8000000 in
set_option maxRecDepth 100000 in
theorem slices_Contains_int_int.calls (k : Nat) (A0 : Option Addr) (c0 : Nat) (l0 : List Int) (a1 : Int) (r : Bool) (w : World) (hr0 : Kd.C (Kd.int .i64) w A0 l0.length l0) (hc0 : l0.length ≤ c0) (h : slices_Contains_int_int.f k l0 a1 = some r) :
    Calls Try.prog 120 #[.slice A0 l0.length c0, .int .i64 a1] w fun e w' => e = .returned (.bool r) ∧ Drawn0 w w' := by
  have HR0 := Aside0.mk hr0
  have HC0 := Aside0.mk hc0
  clear hr0 hc0
  have H := h
  unfold slices_Contains_int_int.f at H
  clear h
  obtain ⟨t623, A3, H⟩ := bi_ H
  obtain rfl := Option.some.inj H
  go_enter Try.func120, Try.ntmps120
  go_wp2_with (first | ((with_reducible refine gate_callee (f := 145) rfl ?_); refine gL_ (some 7) Try.func145 #[.slice A0 l0.length c0, .int .i64 a1] rfl qa_ ?_; (with_reducible refine (slices_Index_int_int.calls k _ _ l0 a1 t623 _ (cc_ HR0) HC0.out A3.out).mono ?_); rintro e w' ⟨rfl, ⟨nd, rfl⟩⟩; refine ⟨_, rfl, ?_⟩))
  go_ret
  exact ⟨qc_, by repeat (first | exact Drawn0.refl _ | apply Drawn0.step)⟩
end Go.Proofs.Ytbdnellgioimbaa.A
end
section
namespace Go.Proofs.Ytbdnellgioimbaa.A
open Go.RowKit Go.Proofs.YtbdnellgioimbaaW.PrintWords Go.Proofs.YtbdnellgioimbaaW.PrintLast Go.Proofs.YtbdnellgioimbaaW.PrintMore
attribute [local go_sem] max2_int min2_int max_two min_two max_three min_three max_four min_four
set_option linter.unusedVariables false
set_option linter.unusedSimpArgs false
def impl_rowOf.l0 : Nat → Int → List (List Int) → Int → Int → Option (List Int)
  | 0, _, _, _, _ => none
  | k + 1, x1, x9, x10, x11 => if x11 < x10 then (if 0 ≤ x11 then (if x11 < (x9.length : Int) then ((slices_Contains_int_int.f k (rd_L1 x9 x11) x1).bind fun t629 => (if t629 = true then (some (rd_L1 x9 x11)) else (impl_rowOf.l0 k x1 x9 x10 (wrap64 (x11 + 1))))) else (none)) else (none)) else (some ([] : List Int))
def impl_rowOf.f (k : Nat) (l0_0 : List Int) (l0_1 : List Int) (a1 : Int) : Option (List Int) := (impl_CyclesOf.f k l0_0).bind fun t625 => (impl_rowOf.l0 k a1 t625 (t625.length : Int) 0)
theorem impl_rowOf.mono_l : ∀ k, (∀ y0 y1 y2 y3, LeO (impl_rowOf.l0 k y0 y1 y2 y3) (impl_rowOf.l0 (k + 1) y0 y1 y2 y3))
  | 0 => fun _ _ _ _ r h => by simp [impl_rowOf.l0] at h
  | k + 1 => by
    have ih0 := impl_rowOf.mono_l k
    · intro y0 y1 y2 y3
      unfold impl_rowOf.l0
      repeat' first|exact ih0 _ _ _ _|exact impl_CyclesOf.mono _ _|exact slices_Contains_int_int.mono _ _ _|exact lo_|refine LeO.ite ?_ ?_|refine LeO.bind ?_ (fun _ => ?_)
theorem impl_rowOf.mono : ∀ a0 a1 a2 k, LeO (impl_rowOf.f k a0 a1 a2) (impl_rowOf.f (k + 1) a0 a1 a2) := by
  intro a0 a1 a2 k
  have ih0 := impl_rowOf.mono_l k
  unfold impl_rowOf.f
  repeat' first|exact ih0 _ _ _ _|exact impl_CyclesOf.mono _ _|exact slices_Contains_int_int.mono _ _ _|exact lo_|refine LeO.ite ?_ ?_|refine LeO.bind ?_ (fun _ => ?_)
set_option maxHeartbeats 8000000 in
set_option maxRecDepth 100000 in
theorem impl_rowOf.calls (k : Nat) (A0_0 : Option Addr) (c0_0 : Nat) (l0_0 : List Int) (A0_1 : Option Addr) (c0_1 : Nat) (l0_1 : List Int) (a1 : Int) (r : List Int) (w : World) (hr0_0 : Kd.C (Kd.int .i64) w A0_0 l0_0.length l0_0) (hc0_0 : l0_0.length ≤ c0_0) (hr0_1 : Kd.C (Kd.int .i64) w A0_1 l0_1.length l0_1) (hc0_1 : l0_1.length ≤ c0_1) (h : impl_rowOf.f k l0_0 l0_1 a1 = some r) :
    Calls Try.prog 78 #[.agg #[.slice A0_0 l0_0.length c0_0, .slice A0_1 l0_1.length c0_1], .int .i64 a1] w fun e w' => ∃ v0_ : Value, e = .returned (v0_) ∧ Kd.R (Kd.int .i64) 3 w' w.heap.size (fun _ => True) v0_ r ∧ Below w.heap.size w w' := by
  have hu27 := Try.underlying27
  have HR0_0 := Aside0.mk hr0_0
  have HC0_0 := Aside0.mk hc0_0
  clear hr0_0 hc0_0
  have HR0_1 := Aside0.mk hr0_1
  have HC0_1 := Aside0.mk hc0_1
  clear hr0_1 hc0_1
  have HB := Aside0.mk (Below.refl w.heap.size w)
  have H := h
  unfold impl_rowOf.f at H
  clear h
  obtain ⟨t625, A3, H⟩ := bi_ H
  have H' := Aside0.mk H
  clear H
  go_enter Try.func78, Try.ntmps78
  go_wp2_with (first | ((with_reducible refine gate_dst (N := 2) rfl ?_); refine bx_ 2 #[.slice A0_0 l0_0.length c0_0, .slice A0_1 l0_1.length c0_1] 27 ?_; intro gb624 hg w4 hbox hb; have BK624 := Aside0.mk hbox; have GW624 := gw_ w hg; have GE624 := GW624; replace HB := b1_ hb; clear hb hbox hg; obtain ⟨hcz5_0, hcz5_1, hfz5_0, hfz5_1⟩ := c2_ BK624) | ((with_reducible refine gate_callee (f := 56) rfl ?_); refine gL_ (some 9) Try.func56 #[.slice A0_0 l0_0.length c0_0] rfl qa_ ?_; (with_reducible refine (impl_CyclesOf.calls k _ _ l0_0 t625 _ (cb_ HR0_0) HC0_0.out A3.out).mono ?_); rintro e w6 ⟨v626, rfl, ho0, hb⟩; refine ⟨_, rfl, ?_⟩; have HO627 := Aside0.mk (Kd.S_lower ho0 (below_size hB_)); replace BK624 := bb_ BK624 hb; replace HB := b1_ hb; clear hb ho0; obtain ⟨Ao7, co7, eo7⟩ := Kd.S_slice HO627.out; subst eo7))
  go_loopg [11] k (fun kq v11 w' => ∃ (x11_1 : Int), v11 = .int .i64 x11_1 ∧ Aside0 (impl_rowOf.l0 kq a1 t625 (t625.length : Int) x11_1 = some r) ∧ Aside0 (kq ≤ k) ∧ Aside0 (Kd.S (Kd.slice 3 (Kd.int .i64)) 22 w' w.heap.size (fun _ => True) (.slice Ao7 t625.length co7) t625) ∧ Aside0 (w'.heap[gb624]? = some (.cells #[(.slice A0_0 l0_0.length c0_0), (.slice A0_1 l0_1.length c0_1)] 27 (0, 0))) ∧ Aside0 (Below w.heap.size w w'))
  case atStart => exact ⟨(0), qc_, H', ⟨Nat.le_refl _⟩, ⟨(ss_ HO627)⟩, ⟨(kk_ BK624)⟩, ⟨hB_⟩⟩
  case round =>
    clear H'
    obtain ⟨x11_1, rfl, HA, HK1, HO_9, BK624, HB⟩ := hrel
    cases gk with
    | zero => exact absurd HA.out (by simp [impl_rowOf.l0])
    | succ k1 =>
      have H := HA.out
      clear HA
      simp only [impl_rowOf.l0] at H
      by_cases c8 : x11_1 < (t625.length : Int)
      · rw [if_pos c8] at H
        have c8b0 := decide_eq_true c8
        clear c8
        have c9 := cp_ H
        replace H := ca_ H
        have c9b0 := decide_eq_true c9
        clear c9
        have c10 := cp_ H
        replace H := ca_ H
        have c10b0 := decide_eq_true c10
        clear c10
        obtain ⟨t629, A11, H⟩ := bi_ H
        by_cases c12 : t629 = true
        · subst c12
          rw [if_pos rfl] at H
          obtain rfl := Option.some.inj H
          have p628 : 0 ≤ (x11_1 : Int) := of_decide_eq_true qe_
          have q628 : x11_1 < (t625.length : Int) := of_decide_eq_true qe_
          obtain ⟨ad628, A628_0, c628_0, e628, hx628_0, hl628_0, hi628_0⟩ := at_L1 (Kd.S_reads' HO_9.out).2.2 x11_1 p628 q628
          cases e628
          obtain ⟨ce628, hce628, hMe628, hcc628⟩ := Kd.S_get HO_9.out [] x11_1 p628 (by first | exact q628 | exact of_decide_eq_true qe_ | (have e_ := (Kd.S_reads' HO_9.out).1; omega))
          obtain ⟨ve628_0, rfl, ge628_0⟩ := hMe628
          have hv628_0 := hcc628 0 _ rfl
          rw [Nat.add_zero, show ((Kd.slice 3 (Kd.int .i64))).sz = 1 from rfl, Nat.mul_one] at hv628_0
          replace hv628_0 := Option.some.inj (hv628_0.symm.trans hx628_0)
          rw [hv628_0] at ge628_0
          have HL628_0 := Aside0.mk (show Kd.R (Kd.int .i64) 3 _ _ _ _ (rd_L1 t625 x11_1) from ge628_0)
          clear hv628_0 ge628_0
          clear hcc628 hce628
          have HR628_0 := Aside0.mk hi628_0
          have HC628_0 := Aside0.mk hl628_0
          clear hi628_0 hl628_0
          replace p628 := eq_true p628
          replace q628 := eq_true q628
          go_wp2_with (first | ((with_reducible refine gate_callee (f := 120) rfl ?_); refine gL_ (some 17) Try.func120 #[.slice A628_0 (rd_L1 t625 x11_1).length c628_0, .int .i64 a1] rfl qa_ ?_; (with_reducible refine (slices_Contains_int_int.calls k1 _ _ (rd_L1 t625 x11_1) a1 true _ (cw_ (by repeat (first | (with_reducible exact HR628_0.out) | (with_reducible refine Kd.C_alloc ?_ _) | (with_reducible refine Kd.C_drewN ?_ _) | (with_reducible refine Kd.C_drew ?_) | exact HR628_0.out))) HC628_0.out A11.out).mono ?_); rintro e w' ⟨rfl, ⟨nd, rfl⟩⟩; refine ⟨_, rfl, ?_⟩))
          go_ret
          exact ⟨_, qb_, (rw_ (Kd.R_mono HL628_0.out (fun _ hk => trivial))), hB_⟩
        · replace c12 := Bool.eq_false_iff.mpr c12
          subst c12
          have H1 : (impl_rowOf.l0 k1 a1 t625 (t625.length : Int) (wrap64 (x11_1 + 1))) = some r := by rw [if_neg (show ¬ (false = true) by decide)] at H; exact H
          clear H
          have H := H1
          clear H1
          have H' := Aside0.mk H
          clear H
          have p628 : 0 ≤ (x11_1 : Int) := of_decide_eq_true qe_
          have q628 : x11_1 < (t625.length : Int) := of_decide_eq_true qe_
          obtain ⟨ad628, A628_0, c628_0, e628, hx628_0, hl628_0, hi628_0⟩ := at_L1 (Kd.S_reads' HO_9.out).2.2 x11_1 p628 q628
          cases e628
          obtain ⟨ce628, hce628, hMe628, hcc628⟩ := Kd.S_get HO_9.out [] x11_1 p628 (by first | exact q628 | exact of_decide_eq_true qe_ | (have e_ := (Kd.S_reads' HO_9.out).1; omega))
          obtain ⟨ve628_0, rfl, ge628_0⟩ := hMe628
          have hv628_0 := hcc628 0 _ rfl
          rw [Nat.add_zero, show ((Kd.slice 3 (Kd.int .i64))).sz = 1 from rfl, Nat.mul_one] at hv628_0
          replace hv628_0 := Option.some.inj (hv628_0.symm.trans hx628_0)
          rw [hv628_0] at ge628_0
          have HL628_0 := Aside0.mk (show Kd.R (Kd.int .i64) 3 _ _ _ _ (rd_L1 t625 x11_1) from ge628_0)
          clear hv628_0 ge628_0
          clear hcc628 hce628
          have HR628_0 := Aside0.mk hi628_0
          have HC628_0 := Aside0.mk hl628_0
          clear hi628_0 hl628_0
          replace p628 := eq_true p628
          replace q628 := eq_true q628
          go_wp2_with (first | ((with_reducible refine gate_callee (f := 120) rfl ?_); refine gL_ (some 17) Try.func120 #[.slice A628_0 (rd_L1 t625 x11_1).length c628_0, .int .i64 a1] rfl qa_ ?_; (with_reducible refine (slices_Contains_int_int.calls k1 _ _ (rd_L1 t625 x11_1) a1 false _ (cw_ (by repeat (first | (with_reducible exact HR628_0.out) | (with_reducible refine Kd.C_alloc ?_ _) | (with_reducible refine Kd.C_drewN ?_ _) | (with_reducible refine Kd.C_drew ?_) | exact HR628_0.out))) HC628_0.out A11.out).mono ?_); rintro e w' ⟨rfl, ⟨nd, rfl⟩⟩; refine ⟨_, rfl, ?_⟩))
          go_roundg k1
          case measure => have := HK1.out; omega
          case rel => exact ⟨(wrap64 (x11_1 + 1)), qc_, H', ⟨by have := HK1.out; omega⟩, ⟨(ss_ HO_9)⟩, ⟨(kk_ BK624)⟩, ⟨hB_⟩⟩
      · rw [if_neg c8] at H
        have c8b0 := decide_eq_false c8
        clear c8
        obtain rfl := Option.some.inj H
        go_wp2
        go_ret
        exact ⟨_, qb_, by first | exact Kd.R_nil _ _ _ _ _ | exact Kd.N_nil _ _ _ _ _ | exact Kd.V_nil _ _ _ _ _ | exact Kd.Q_nil _ _ _ _ _ | exact Kd.S_nil _ _ _ _ _, hB_⟩
end Go.Proofs.Ytbdnellgioimbaa.A
end
section
namespace Go.Proofs.Ytbdnellgioimbaa.A
open Go.RowKit Go.Proofs.YtbdnellgioimbaaW.PrintWords Go.Proofs.YtbdnellgioimbaaW.PrintLast Go.Proofs.YtbdnellgioimbaaW.PrintMore
attribute [local go_sem] max2_int min2_int max_two min_two max_three min_three max_four min_four
set_option linter.unusedVariables false
set_option linter.unusedSimpArgs false
def slices_Min_int_int.l0 : Nat → List Int → Int → Int → Option Int
  | 0, _, _, _ => none
  | k + 1, l, m, i => if i < (l.length : Int) then (if 0 ≤ i then slices_Min_int_int.l0 k l (mn m (rd l i)) (wrap64 (i + 1)) else none) else some m
def slices_Min_int_int.f (k : Nat) (l0 : List Int) : Option Int := if (l0.length : Int) < 1 then none else slices_Min_int_int.l0 k l0 (rd l0 0) 1
theorem slices_Min_int_int.mono_l : ∀ k, (∀ y0 y1 y2, LeO (slices_Min_int_int.l0 k y0 y1 y2) (slices_Min_int_int.l0 (k + 1) y0 y1 y2))
  | 0 => fun _ _ _ r h => by simp [slices_Min_int_int.l0] at h
  | k + 1 => by
    have ih0 := slices_Min_int_int.mono_l k
    · intro y0 y1 y2
      unfold slices_Min_int_int.l0
      repeat' first|exact ih0 _ _ _|exact lo_|refine LeO.ite ?_ ?_|refine LeO.bind ?_ (fun _ => ?_)
theorem slices_Min_int_int.mono : ∀ a0 k, LeO (slices_Min_int_int.f k a0) (slices_Min_int_int.f (k + 1) a0) := by
  intro a0 k
  unfold slices_Min_int_int.f
  exact LeO.ite (LeO.none _) (slices_Min_int_int.mono_l k _ _ _)
set_option maxHeartbeats 8000000 in
set_option maxRecDepth 100000 in
theorem slices_Min_int_int.calls (k : Nat) (A0 : Option Addr) (c0 : Nat) (l0 : List Int) (r : Int) (w : World) (hr0 : Kd.C (Kd.int .i64) w A0 l0.length l0) (hc0 : l0.length ≤ c0) (h : slices_Min_int_int.f k l0 = some r) :
    Calls Try.prog 79 #[.slice A0 l0.length c0] w fun e w' => e = .returned (.int .i64 r) ∧ Drawn0 w w' := by
  have HR0 := Aside0.mk hr0
  have HC0 := Aside0.mk hc0
  clear hr0 hc0
  unfold slices_Min_int_int.f at h
  by_cases c2 : (l0.length : Int) < 1
  · rw [if_pos c2] at h
    cases h
  · rw [if_neg c2] at h
    have c2b0 := decide_eq_false c2
    have c2b1 : decide (l0.length < 1) = false := decide_eq_false (by omega)
    have q0 : (0 : Int) < (l0.length : Int) := by omega
    clear c2
    obtain ⟨ad, e0, hx⟩ := Kd.at_int HR0.out 0 (by omega) q0
    cases e0
    (try simp only [show (0 : Int).toNat = 0 from rfl, Nat.reduceMul, Nat.reduceEqDiff, Go.Addr.add, ↓reduceIte] at hx)
    have q0n : 0 < l0.length := by omega
    have q0b := eq_true q0n
    clear q0n
    have H' := Aside0.mk h
    clear h
    go_enter Try.func79, Try.ntmps79
    go_wp2
    go_loopg [3, 4] k (fun kq v3 v4 w' => ∃ (m : Int) (i : Int), v3 = .int .i64 m ∧ v4 = .int .i64 i ∧ Aside0 (slices_Min_int_int.l0 kq l0 m i = some r) ∧ Aside0 (kq ≤ k) ∧ Drawn0 w w')
    case atStart => exact ⟨rd l0 0, 1, rfl, rfl, H', ⟨Nat.le_refl _⟩, Drawn0.refl _⟩
    case round =>
      clear H' hx
      obtain ⟨m, i, rfl, rfl, HA, HK1, ⟨nd, rfl⟩⟩ := hrel
      cases gk with
      | zero => exact absurd HA.out (by simp [slices_Min_int_int.l0])
      | succ k1 =>
        have H := HA.out
        clear HA
        simp only [slices_Min_int_int.l0] at H
        by_cases c3 : i < (l0.length : Int)
        · rw [if_pos c3] at H
          have c4 := cp_ H
          replace H := ca_ H
          have c3b0 := decide_eq_true c3
          have c4b0 := decide_eq_true c4
          obtain ⟨ad', e0, hx⟩ := Kd.at_int HR0.out i c4 c3
          cases e0
          replace c3 := eq_true c3
          replace c4 := eq_true c4
          have H' := Aside0.mk H
          clear H
          go_wp2
          all_goals
            go_roundg k1
            case measure => have := HK1.out; omega
            case rel => exact ⟨mn m (rd l0 i), wrap64 (i + 1), (by unfold mn; split <;> first | rfl | (exfalso; omega) | (exfalso; simp_all)), rfl, H', ⟨by have := HK1.out; omega⟩, by repeat (first | exact Drawn0.refl _ | apply Drawn0.step)⟩
        · rw [if_neg c3] at H
          have c3b0 := decide_eq_false c3
          clear c3
          obtain rfl := Option.some.inj H
          go_wp2
          go_ret
          exact ⟨rfl, by repeat (first | exact Drawn0.refl _ | apply Drawn0.step)⟩
end Go.Proofs.Ytbdnellgioimbaa.A
end
section
namespace Go.Proofs.Ytbdnellgioimbaa.A
open Go.RowKit Go.Proofs.YtbdnellgioimbaaW.PrintWords Go.Proofs.YtbdnellgioimbaaW.PrintLast Go.Proofs.YtbdnellgioimbaaW.PrintMore
attribute [local go_sem] max2_int min2_int max_two min_two max_three min_three max_four min_four
set_option linter.unusedVariables false
set_option linter.unusedSimpArgs false
mutual
def impl_RowAbove.j0 : Nat → Int → Bool → List Int → List Int → Option (Int)
  | 0, _, _, _, _ => none
  | k + 1, x1, x21, x631000, x631001 => if x21 = true then (some (-1)) else ((impl_AroundOf.f k x631000 x631001).bind fun t632 => ((impl_rowOf.f k x631000 x631001 x1).bind fun t635 => (impl_RowAbove.l0 k x1 t632 t635 (t635.length : Int) 0 x631000 x631001)))
def impl_RowAbove.l0 : Nat → Int → List Int → List Int → Int → Int → List Int → List Int → Option (Int)
  | 0, _, _, _, _, _, _, _ => none
  | k + 1, x1, x5, x26, x27, x28, x631000, x631001 => if x28 < x27 then (if 0 ≤ x28 then (if x28 < (x26.length : Int) then (if 0 ≤ (rd x26 x28) then (if (rd x26 x28) < (x5.length : Int) then (if (rd x5 (rd x26 x28)) = (rd x26 x28) then (impl_RowAbove.l0 k x1 x5 x26 x27 (wrap64 (x28 + 1)) x631000 x631001) else (some (-1))) else (none)) else (none)) else (none)) else (none)) else (if 0 ≤ x1 then (if x1 < (x631001.length : Int) then ((impl_rowOf.f k x631000 x631001 (rd x631001 x1)).bind fun t641 => ((slices_Min_int_int.f k t641).bind fun t644 => (some t644))) else (none)) else (none))
end
def impl_RowAbove.f (k : Nat) (l0_0 : List Int) (l0_1 : List Int) (a1 : Int) : Option (Int) := (impl_SurfaceOk.f k l0_0 l0_1).bind fun t631 => (if t631 = true then (if a1 < 0 then (impl_RowAbove.j0 k a1 true l0_0 l0_1) else (impl_RowAbove.j0 k a1 (decide (a1 ≥ (l0_0.length : Int))) l0_0 l0_1)) else (impl_RowAbove.j0 k a1 true l0_0 l0_1))
theorem impl_RowAbove.mono_l : ∀ k, (∀ y0 y1 y2 y3, LeO (impl_RowAbove.j0 k y0 y1 y2 y3) (impl_RowAbove.j0 (k + 1) y0 y1 y2 y3)) ∧ (∀ y0 y1 y2 y3 y4 y5 y6, LeO (impl_RowAbove.l0 k y0 y1 y2 y3 y4 y5 y6) (impl_RowAbove.l0 (k + 1) y0 y1 y2 y3 y4 y5 y6))
  | 0 => ⟨fun _ _ _ _ r h => by simp [impl_RowAbove.j0] at h, fun _ _ _ _ _ _ _ r h => by simp [impl_RowAbove.l0] at h⟩
  | k + 1 => by
    obtain ⟨ih0, ih1⟩ := impl_RowAbove.mono_l k
    refine ⟨?_, ?_⟩
    · intro y0 y1 y2 y3
      unfold impl_RowAbove.j0
      repeat' first|exact ih0 _ _ _ _|exact ih1 _ _ _ _ _ _ _|exact impl_AroundOf.mono _ _ _|exact impl_SurfaceOk.mono _ _ _|exact impl_rowOf.mono _ _ _ _|exact slices_Min_int_int.mono _ _|exact lo_|refine LeO.ite ?_ ?_|refine LeO.bind ?_ (fun _ => ?_)
    · intro y0 y1 y2 y3 y4 y5 y6
      unfold impl_RowAbove.l0
      repeat' first|exact ih0 _ _ _ _|exact ih1 _ _ _ _ _ _ _|exact impl_AroundOf.mono _ _ _|exact impl_SurfaceOk.mono _ _ _|exact impl_rowOf.mono _ _ _ _|exact slices_Min_int_int.mono _ _|exact lo_|refine LeO.ite ?_ ?_|refine LeO.bind ?_ (fun _ => ?_)
theorem impl_RowAbove.mono : ∀ a0 a1 a2 k, LeO (impl_RowAbove.f k a0 a1 a2) (impl_RowAbove.f (k + 1) a0 a1 a2) := by
  intro a0 a1 a2 k
  obtain ⟨ih0, ih1⟩ := impl_RowAbove.mono_l k
  unfold impl_RowAbove.f
  repeat' first|exact ih0 _ _ _ _|exact ih1 _ _ _ _ _ _ _|exact impl_AroundOf.mono _ _ _|exact impl_SurfaceOk.mono _ _ _|exact impl_rowOf.mono _ _ _ _|exact slices_Min_int_int.mono _ _|exact lo_|refine LeO.ite ?_ ?_|refine LeO.bind ?_ (fun _ => ?_)
def impl_RowAbove.T10 : Bool × List (List Nat × List Nat) := (true, [([], []), ([], []), ([1], [1]), ([], []), ([2, 3], [2, 3]), ([4], [4]), ([0, 5], [0, 5]), ([6, 6], [6]), ([7, 7, 0, 1, 2, 3, 4, 5, 6, 7], [7])])
def impl_RowAbove.B10 : List Nat := [0, 0, 2, 0, 14, 30, 63, 127, 255]
theorem impl_RowAbove.tab10 : rtab .any (opsOf Try.f30 10) = impl_RowAbove.T10 := by kernel_rfl
theorem impl_RowAbove.bits10 : waitsOk impl_RowAbove.T10.2 impl_RowAbove.B10 = true := by kernel_rfl
set_option maxHeartbeats 8000000 in
set_option maxRecDepth 100000 in
theorem impl_RowAbove.calls (k : Nat) (A0_0 : Option Addr) (c0_0 : Nat) (l0_0 : List Int) (A0_1 : Option Addr) (c0_1 : Nat) (l0_1 : List Int) (a1 : Int) (r : Int) (w : World) (hr0_0 : Kd.C (Kd.int .i64) w A0_0 l0_0.length l0_0) (hc0_0 : l0_0.length ≤ c0_0) (hr0_1 : Kd.C (Kd.int .i64) w A0_1 l0_1.length l0_1) (hc0_1 : l0_1.length ≤ c0_1) (h : impl_RowAbove.f k l0_0 l0_1 a1 = some r) :
    Calls Try.prog 30 #[.agg #[.slice A0_0 l0_0.length c0_0, .slice A0_1 l0_1.length c0_1], .int .i64 a1] w fun e w' => e = .returned (.int .i64 r) ∧ Below w.heap.size w w' := by
  have hu27 := Try.underlying27
  have HR0_0 := Aside0.mk hr0_0
  have HC0_0 := Aside0.mk hc0_0
  clear hr0_0 hc0_0
  have HR0_1 := Aside0.mk hr0_1
  have HC0_1 := Aside0.mk hc0_1
  clear hr0_1 hc0_1
  have HB := Aside0.mk (Below.refl w.heap.size w)
  have H := h
  unfold impl_RowAbove.f at H
  clear h
  have HC3 := Aside0.mk H
  clear H
  go_enter Try.func30, Try.ntmps30
  go_upto_region 1 with (first | ((with_reducible refine gate_dst (N := 2) rfl ?_); (try (refine gate_guard (by rfl) ?_; dsimp only)); refine bx_ 2 #[.slice A0_0 l0_0.length c0_0, .slice A0_1 l0_1.length c0_1] 27 ?_; intro gb630 hg w4 hbox hb; have BK630 := Aside0.mk hbox; have GW630 := gw_ w hg; have GE630 := GW630; replace HB := b1_ hb; clear hb hbox hg))
  (try simp only [Act.put, List.setIfInBounds_toArray, List.set_cons_zero, List.set_cons_succ])
  go_cut [21] (fun v21 wc => ∃ (kq : Nat) (x21_2 : Bool), v21 = .bool x21_2 ∧ Aside0 (impl_RowAbove.j0 kq a1 x21_2 l0_0 l0_1 = some r) ∧ Aside0 (kq ≤ k) ∧ Aside0 (wc.heap[gb630]? = some (.cells #[(.slice A0_0 l0_0.length c0_0), (.slice A0_1 l0_1.length c0_1)] 27 (0, 0))) ∧ Aside0 (Below w.heap.size w wc))
  case first =>
    have H := HC3.out
    clear HC3
    obtain ⟨t631, A5, H⟩ := bi_ H
    by_cases c6 : t631 = true
    · subst c6
      rw [if_pos rfl] at H
      by_cases c7 : a1 < 0
      · rw [if_pos c7] at H
        have c7b0 := decide_eq_true c7
        clear c7
        (first | rw [c7b0] | (simp only [i64_w, i32_w]; rw [c7b0]) | skip)
        have H' := Aside0.mk H
        clear H
        obtain ⟨hcz8_0, hcz8_1, hfz8_0, hfz8_1⟩ := c2_ BK630
        go_wp2_with (first | ((with_reducible refine gate_callee (f := 65) rfl ?_); refine gL_ (some 9) Try.func65 #[.agg #[.slice A0_0 l0_0.length c0_0, .slice A0_1 l0_1.length c0_1]] rfl qa_ ?_; (with_reducible refine (impl_SurfaceOk.calls k _ _ l0_0 _ _ l0_1 true _ (cb_ HR0_0) HC0_0.out (cb_ HR0_1) HC0_1.out A5.out).mono ?_); rintro e w9 ⟨rfl, hb⟩; refine ⟨_, rfl, ?_⟩; replace BK630 := bb_ BK630 hb; replace HB := b1_ hb; clear hb))
        go_meet
        case rel => exact ⟨_, (true), qc_, H', ⟨qd_⟩, ⟨(kk_ BK630)⟩, ⟨hB_⟩⟩
      · rw [if_neg c7] at H
        have c7b0 := decide_eq_false c7
        clear c7
        (first | rw [c7b0] | (simp only [i64_w, i32_w]; rw [c7b0]) | skip)
        have H' := Aside0.mk H
        clear H
        obtain ⟨hcz10_0, hcz10_1, hfz10_0, hfz10_1⟩ := c2_ BK630
        go_wp2_with (first | ((with_reducible refine gate_callee (f := 65) rfl ?_); refine gL_ (some 9) Try.func65 #[.agg #[.slice A0_0 l0_0.length c0_0, .slice A0_1 l0_1.length c0_1]] rfl qa_ ?_; (with_reducible refine (impl_SurfaceOk.calls k _ _ l0_0 _ _ l0_1 true _ (cb_ HR0_0) HC0_0.out (cb_ HR0_1) HC0_1.out A5.out).mono ?_); rintro e w11 ⟨rfl, hb⟩; refine ⟨_, rfl, ?_⟩; replace BK630 := bb_ BK630 hb; replace HB := b1_ hb; clear hb; obtain ⟨hcz12_0, hcz12_1, hfz12_0, hfz12_1⟩ := c2_ BK630))
        go_meet
        case rel => exact ⟨_, (decide (a1 ≥ (l0_0.length : Int))), qc_, H', ⟨qd_⟩, ⟨(kk_ BK630)⟩, ⟨hB_⟩⟩
    · replace c6 := Bool.eq_false_iff.mpr c6
      subst c6
      have H1 : (impl_RowAbove.j0 k a1 true l0_0 l0_1) = some r := by rw [if_neg (show ¬ (false = true) by decide)] at H; exact H
      clear H
      have H := H1
      clear H1
      have H' := Aside0.mk H
      clear H
      obtain ⟨hcz13_0, hcz13_1, hfz13_0, hfz13_1⟩ := c2_ BK630
      go_wp2_with (first | ((with_reducible refine gate_callee (f := 65) rfl ?_); refine gL_ (some 9) Try.func65 #[.agg #[.slice A0_0 l0_0.length c0_0, .slice A0_1 l0_1.length c0_1]] rfl qa_ ?_; (with_reducible refine (impl_SurfaceOk.calls k _ _ l0_0 _ _ l0_1 false _ (cb_ HR0_0) HC0_0.out (cb_ HR0_1) HC0_1.out A5.out).mono ?_); rintro e w14 ⟨rfl, hb⟩; refine ⟨_, rfl, ?_⟩; replace BK630 := bb_ BK630 hb; replace HB := b1_ hb; clear hb))
      go_meet
      case rel => exact ⟨_, (true), qc_, H', ⟨qd_⟩, ⟨(kk_ BK630)⟩, ⟨hB_⟩⟩
  case rest =>
    clear HC3
    obtain ⟨kq, x21_2, rfl, HA, HJ2, BK630, HB⟩ := hcut
    cases kq with
    | zero => exact absurd HA.out (by simp [impl_RowAbove.j0])
    | succ kj2 =>
      have H := HA.out
      clear HA
      simp only [impl_RowAbove.j0] at H
      by_cases c15 : x21_2 = true
      · subst c15
        rw [if_pos rfl] at H
        obtain rfl := Option.some.inj H
        go_wp2
        go_ret
        exact ⟨qb_, hB_⟩
      · replace c15 := Bool.eq_false_iff.mpr c15
        subst c15
        have H1 : ((impl_AroundOf.f kj2 l0_0 l0_1).bind fun t632 => ((impl_rowOf.f kj2 l0_0 l0_1 a1).bind fun t635 => (impl_RowAbove.l0 kj2 a1 t632 t635 (t635.length : Int) 0 l0_0 l0_1))) = some r := by rw [if_neg (show ¬ (false = true) by decide)] at H; exact H
        clear H
        have H := H1
        clear H1
        obtain ⟨t632, A16, H⟩ := bi_ H
        obtain ⟨t635, A17, H⟩ := bi_ H
        have H' := Aside0.mk H
        clear H
        obtain ⟨hcz18_0, hcz18_1, hfz18_0, hfz18_1⟩ := c2_ BK630
        go_wp2_with (first | ((with_reducible refine gate_callee (f := 77) rfl ?_); refine gL_ (some 23) Try.func77 #[.agg #[.slice A0_0 l0_0.length c0_0, .slice A0_1 l0_1.length c0_1]] rfl qa_ ?_; (with_reducible refine (impl_AroundOf.calls kj2 _ _ l0_0 _ _ l0_1 t632 _ (cb_ HR0_0) HC0_0.out (cb_ HR0_1) HC0_1.out A16.out).mono ?_); rintro e w19 ⟨v633, rfl, ho0, hb⟩; refine ⟨_, rfl, ?_⟩; have HO634 := rl_ w ho0; replace BK630 := bb_ BK630 hb; replace HB := b1_ hb; clear hb ho0; obtain ⟨hcz20_0, hcz20_1, hfz20_0, hfz20_1⟩ := c2_ BK630) | ((with_reducible refine gate_callee (f := 78) rfl ?_); refine gL_ (some 26) Try.func78 #[.agg #[.slice A0_0 l0_0.length c0_0, .slice A0_1 l0_1.length c0_1], .int .i64 a1] rfl qa_ ?_; (with_reducible refine (impl_rowOf.calls kj2 _ _ l0_0 _ _ l0_1 a1 t635 _ (cb_ HR0_0) HC0_0.out (cb_ HR0_1) HC0_1.out A17.out).mono ?_); rintro e w21 ⟨v636, rfl, ho0, hb⟩; refine ⟨_, rfl, ?_⟩; have HO637 := Aside0.mk (Kd.R_lower (Kd.R_new' ho0 (Kd.R_lt (rr_ HO634))) (below_size hB_)); replace HO634 := Aside0.mk (Kd.R_elder' (rr_ HO634) (Kd.R_base ho0) hb); replace BK630 := bb_ BK630 hb; replace HB := b1_ hb; clear hb ho0; obtain ⟨Ao22, co22, eo22⟩ := Kd.R_slice HO637.out; subst eo22))
        go_loopg [28] kj2 (fun kq v28 w' => ∃ (x28_2 : Int), v28 = .int .i64 x28_2 ∧ Aside0 (impl_RowAbove.l0 kq a1 t632 t635 (t635.length : Int) x28_2 l0_0 l0_1 = some r) ∧ Aside0 (kq ≤ kj2) ∧ Aside0 (Kd.R (Kd.int .i64) 3 w' w.heap.size (fun k_ => some k_ ≠ ((.slice Ao22 t635.length co22) : Value).ownBlock) v633 t632) ∧ Aside0 (Kd.R (Kd.int .i64) 3 w' w.heap.size (fun k_ => some k_ ≠ (v633 : Value).ownBlock) (.slice Ao22 t635.length co22) t635) ∧ Aside0 (w'.heap[gb630]? = some (.cells #[(.slice A0_0 l0_0.length c0_0), (.slice A0_1 l0_1.length c0_1)] 27 (0, 0))) ∧ Aside0 (Below w.heap.size w w'))
        case atStart => exact ⟨(0), qc_, H', ⟨Nat.le_refl _⟩, ⟨(rw_ (Kd.R_mono HO634.out (fun _ hk => hk.2)))⟩, ⟨(rw_ (Kd.R_mono HO637.out (fun _ hk => hk.2)))⟩, ⟨(kk_ BK630)⟩, ⟨hB_⟩⟩
        case round =>
          clear H'
          obtain ⟨x28_2, rfl, HA, HK2, HO_5, HO_26, BK630, HB⟩ := hrel
          cases gk with
          | zero => exact absurd HA.out (by simp [impl_RowAbove.l0])
          | succ k2 =>
            have H := HA.out
            clear HA
            simp only [impl_RowAbove.l0] at H
            by_cases c23 : x28_2 < (t635.length : Int)
            · rw [if_pos c23] at H
              have c23b0 := decide_eq_true c23
              clear c23
              have c24 := cp_ H
              replace H := ca_ H
              have c24b0 := decide_eq_true c24
              clear c24
              have c25 := cp_ H
              replace H := ca_ H
              have c25b0 := decide_eq_true c25
              clear c25
              have c26 := cp_ H
              replace H := ca_ H
              have c26b0 := decide_eq_true c26
              clear c26
              have c27 := cp_ H
              replace H := ca_ H
              have c27b0 := decide_eq_true c27
              clear c27
              by_cases c28 : (rd t632 (rd t635 x28_2)) = (rd t635 x28_2)
              · rw [if_pos c28] at H
                have c28b0 : ((rd t632 (rd t635 x28_2)) == (rd t635 x28_2)) = true := beq_iff_eq.mpr c28
                have c28b1 : ((rd t632 (rd t635 x28_2)) != (rd t635 x28_2)) = false := bne_eq_false_iff_eq.mpr c28
                clear c28
                have H' := Aside0.mk H
                clear H
                have p638 : 0 ≤ (x28_2 : Int) := of_decide_eq_true qe_
                have q638 : x28_2 < (t635.length : Int) := of_decide_eq_true qe_
                obtain ⟨ad638, e638, hx638_0⟩ := Kd.at_int (Kd.R_reads' HO_26.out).2.2 x28_2 p638 q638
                cases e638
                replace p638 := eq_true p638
                replace q638 := eq_true q638
                obtain ⟨Ao29, co29, eo29⟩ := Kd.R_slice HO_5.out
                subst eo29
                have p639 : 0 ≤ ((rd t635 x28_2) : Int) := of_decide_eq_true qe_
                have q639 : (rd t635 x28_2) < (t632.length : Int) := of_decide_eq_true qe_
                obtain ⟨ad639, e639, hx639_0⟩ := Kd.at_int (Kd.R_reads' HO_5.out).2.2 (rd t635 x28_2) p639 q639
                cases e639
                replace p639 := eq_true p639
                replace q639 := eq_true q639
                go_wp2
                go_roundg k2
                case measure => have := HJ2.out; have := HK2.out; omega
                case rel => exact ⟨(wrap64 (x28_2 + 1)), qc_, H', ⟨by have := HJ2.out; have := HK2.out; omega⟩, ⟨(rr_ HO_5)⟩, ⟨(rr_ HO_26)⟩, ⟨(kk_ BK630)⟩, ⟨hB_⟩⟩
              · rw [if_neg c28] at H
                have c28b0 : ((rd t632 (rd t635 x28_2)) == (rd t635 x28_2)) = false := beq_eq_false_iff_ne.mpr c28
                have c28b1 : ((rd t632 (rd t635 x28_2)) != (rd t635 x28_2)) = true := bne_iff_ne.mpr c28
                obtain rfl := Option.some.inj H
                have p638 : 0 ≤ (x28_2 : Int) := of_decide_eq_true qe_
                have q638 : x28_2 < (t635.length : Int) := of_decide_eq_true qe_
                obtain ⟨ad638, e638, hx638_0⟩ := Kd.at_int (Kd.R_reads' HO_26.out).2.2 x28_2 p638 q638
                cases e638
                replace p638 := eq_true p638
                replace q638 := eq_true q638
                obtain ⟨Ao30, co30, eo30⟩ := Kd.R_slice HO_5.out
                subst eo30
                have p639 : 0 ≤ ((rd t635 x28_2) : Int) := of_decide_eq_true qe_
                have q639 : (rd t635 x28_2) < (t632.length : Int) := of_decide_eq_true qe_
                obtain ⟨ad639, e639, hx639_0⟩ := Kd.at_int (Kd.R_reads' HO_5.out).2.2 (rd t635 x28_2) p639 q639
                cases e639
                replace p639 := eq_true p639
                replace q639 := eq_true q639
                go_wp2
                go_ret
                exact ⟨qb_, hB_⟩
            · rw [if_neg c23] at H
              have c23b0 := decide_eq_false c23
              clear c23
              have c31 := cp_ H
              replace H := ca_ H
              have c31b0 := decide_eq_true c31
              clear c31
              have c32 := cp_ H
              replace H := ca_ H
              have c32b0 := decide_eq_true c32
              clear c32
              obtain ⟨t641, A33, H⟩ := bi_ H
              obtain ⟨t644, A34, H⟩ := bi_ H
              obtain rfl := Option.some.inj H
              try go_wp2
              replace HO_5 := Aside0.mk (Kd.R_drew HO_5.out)
              replace HO_26 := Aside0.mk (Kd.R_drew HO_26.out)
              replace BK630 := Aside0.mk (blk_drew BK630.out)
              replace HB := Aside0.mk (below_drew1 HB.out)
              have p640 : 0 ≤ (a1 : Int) := of_decide_eq_true qe_
              have q640 : a1 < (l0_1.length : Int) := of_decide_eq_true qe_
              obtain ⟨ad640, e640, hx640_0⟩ := Kd.at_int HR0_1.out a1 p640 q640
              have hw640_0 := hx640_0
              cases e640
              replace hx640_0 := (HB.out.cell (World.block_lt_of_cell? w _ hx640_0)).trans hx640_0
              replace p640 := eq_true p640
              replace q640 := eq_true q640
              refine start_ (n := 9) (S := fun w' => w'.cell? ⟨gb630, 0, none⟩ = some (.slice A0_0 l0_0.length c0_0) ∧ w'.cell? ⟨gb630, 1, none⟩ = some (.slice (some ad640) l0_1.length c0_1) ∧ w'.cell? (ad640.add (a1).toNat) = some (.int .i64 (rd l0_1 a1))) (ds := []) (bl_ 9 0) (by kernel_rfl) rfl (by kernel_rfl) ⟨cz0_ BK630, cz1_ BK630, ((HB.out.cell (World.block_lt_of_cell? w _ hw640_0)).trans hw640_0)⟩ (fun hHeld => ?_); refine with_tabW impl_RowAbove.tab10 impl_RowAbove.bits10 (fun HT_ HW_ => ?_)
              generalize wr.drew = w35 at HO_5 HO_26 BK630 HB hx640_0 hHeld ⊢
              refine pu_ 1 (some 40) (bl_ 9 2) HT_ ?_
              refine pu_ 3 (some 42) (bl_ 9 10) HT_ ?_
              refine ta_ 0 (some 39) (bl_ 9 11) HT_ HW_ hHeld ?_
              refine ta_ 2 (some 41) (bl_ 9 15) HT_ HW_ hHeld ?_
              refine pu_ 4 (some 43) (bl_ 9 31) HT_ ?_
              refine ta_ 5 (some 44) (bl_ 9 63) HT_ HW_ hHeld ?_
              refine on_ 6 (some 45) (bl_ 9 127) HT_ (fun K hK => ?_)
              refine gO_ Try.func78 #[.agg #[.slice A0_0 l0_0.length c0_0, .slice (some ad640) l0_1.length c0_1], .int .i64 (rd l0_1 a1)] (by rfl) rfl rfl qa_ ?_
              with_reducible refine (impl_rowOf.calls k2 _ _ l0_0 _ _ l0_1 (rd l0_1 a1) t641 _ (cb_ HR0_0) HC0_0.out (cb_ HR0_1) HC0_1.out A33.out).mono ?_
              rintro e w36 ⟨v642, rfl, ho0, hb⟩
              refine ⟨_, rfl, ?_⟩
              have HO643 := Aside0.mk (Kd.R_lower (Kd.R_new' (Kd.R_new' ho0 (Kd.R_lt (rr_ HO_5))) (Kd.R_lt (rr_ HO_26))) (below_size hB_))
              replace HO_5 := Aside0.mk (Kd.R_elder' (rr_ HO_5) (Kd.R_base ho0) hb)
              replace HO_26 := Aside0.mk (Kd.R_elder' (rr_ HO_26) (Kd.R_base ho0) hb)
              replace BK630 := bb_ BK630 hb
              replace HB := b1_ hb
              clear hb ho0
              obtain ⟨Ao37, co37, eo37⟩ := Kd.R_slice HO643.out
              (first | subst eo37 | (injection eo37 with f1_ f2_ f3_; have f4_ := f1_.symm; have f5_ := f3_.symm; clear f1_ f2_ f3_; subst f4_; subst f5_))
              refine hK.out _ _ ⟨cz0_ BK630, cz1_ BK630, ((HB.out.cell (World.block_lt_of_cell? w _ hw640_0)).trans hw640_0)⟩ (fun hHeld => ?_)
              clear hK K
              refine no_ (some 45) ?_
              refine on_ 7 (some 46) (bl_ 9 255) HT_ (fun K hK => ?_)
              refine gO_ Try.func79 #[.slice Ao37 t641.length co37] (by rfl) rfl rfl qa_ ?_
              with_reducible refine (slices_Min_int_int.calls k2 _ _ t641 t644 _ (cr_ HO643) ((Kd.R_reads' HO643.out).2.1) A34.out).mono ?_
              rintro e w' ⟨rfl, ⟨nd, rfl⟩⟩
              refine ⟨_, rfl, ?_⟩
              refine hK.out _ _ ⟨cz0_ BK630, cz1_ BK630, ((HB.out.cell (World.block_lt_of_cell? w _ hw640_0)).trans hw640_0)⟩ (fun hHeld => ?_)
              clear hK K
              refine no_ (some 46) ?_
              refine pu_ 8 (some 4) (bl_ 9 511) HT_ ?_
              refine done_ (done_of HT_.out (by kernel_rfl)) ?_
              try go_wp2
              go_ret
              exact ⟨qb_, hB_⟩
end Go.Proofs.Ytbdnellgioimbaa.A
end
section
namespace Go.Proofs.Ytbdnellgioimbaa.A
open Go.RowKit Go.Proofs.YtbdnellgioimbaaW.PrintWords Go.Proofs.YtbdnellgioimbaaW.PrintLast Go.Proofs.YtbdnellgioimbaaW.PrintMore
attribute [local go_sem] max2_int min2_int max_two min_two max_three min_three max_four min_four
set_option linter.unusedVariables false
set_option linter.unusedSimpArgs false
def idxF : List (List Int) → Int → Nat → Option Int
  | [], _, _ => some (-1)
  | r :: rs, x, i => if 0 < r.length then (if rd r 0 = x then some (i : Int) else idxF rs x (i + 1)) else none
def slices_IndexFunc_int_int.f (rows : List (List Int)) (x : Int) : Option Int := if rows.length < 4611686018427387904 then idxF rows x 0 else none
set_option maxHeartbeats 8000000 in
set_option maxRecDepth 100000 in
theorem slices_IndexFunc_int_int.closure (gx : Nat) (A1 : Option Addr) (c1 : Nat) (l1 : List Int) (x : Int) (b : Bool) (w : World) (hr1 : Kd.C (Kd.int .i64) w A1 l1.length l1) (hne : 0 < l1.length) (hx : w.heap[gx]? = some (.cells #[.int .i64 x] 3 (0, 0))) (hb : decide (rd l1 0 = x) = b) :
    Calls Try.prog 67 #[.slice A1 l1.length c1, .pointer (some ⟨gx, 0, none⟩)] w fun e w' => e = .returned (.bool b) ∧ Below w.heap.size w w' := by
  have p0 : (0 : Int) ≤ (0 : Int) := by omega
  have q0 : (0 : Int) < (l1.length : Int) := by omega
  obtain ⟨ad, e0, hx0⟩ := Kd.at_int hr1 0 p0 q0
  cases e0
  have qi : (0 < l1.length) = True := eq_true hne
  (try rw [show ((0 : Int)).toNat = 0 from rfl] at hx0)
  (try rw [Addr.add_zero'] at hx0)
  have hcx : w.cell? ⟨gx, 0, none⟩ = some (.int .i64 x) := (blk_cell hx 0).trans rfl
  have HR := Aside0.mk hr1
  have HX := Aside0.mk hx
  have HB := Aside0.mk (below_drew1 (Below.refl w.heap.size w))
  have hx0' : w.drew.cell? ad = some (.int .i64 (rd l1 0)) := hx0
  have hcx' : w.drew.cell? ⟨gx, 0, none⟩ = some (.int .i64 x) := hcx
  clear hr1 hx hx0 hcx
  subst hb
  go_enter Try.func67, Try.ntmps67
  go_wp2
  refine start_ (n := 6) (S := fun w' => w'.cell? ad = some (.int .i64 (rd l1 0)) ∧ w'.cell? ⟨gx, 0, none⟩ = some (.int .i64 x)) (ds := []) (bl_ 6 0) (by kernel_rfl) rfl (by kernel_rfl) ⟨hx0', hcx'⟩ (fun hHeld => ?_)
  generalize w.drew = w1 at HB hHeld hx0' hcx' ⊢
  refine pure_ (i := 0) (N := some 4) (v := ?_) (a' := ?_) (bl_ 6 1) rfl rfl (by kernel_rfl) (fun _ _ _ h => h) (Or.inl ⟨by rfl, ?_⟩) ?_ ?_
  rotate_left
  · intro w'
    go_simp
    with_reducible rfl
  rotate_left
  · simp only [Act.put, List.setIfInBounds_toArray, List.set_cons_zero, List.set_cons_succ, i64_w, i32_w]
    rfl
  refine pure_ (i := 1) (N := some 5) (v := ?_) (a' := ?_) (bl_ 6 3) rfl rfl (by kernel_rfl) (fun _ _ _ h => h) (Or.inl ⟨by rfl, ?_⟩) ?_ ?_
  rotate_left
  · intro w'
    go_simp
    with_reducible rfl
  rotate_left
  · simp only [Act.put, List.setIfInBounds_toArray, List.set_cons_zero, List.set_cons_succ, i64_w, i32_w]
    rfl
  refine take_ (i := 2) (N := some 6) (v := ?_) (a' := ?_) (bl_ 6 7) rfl rfl (by kernel_rfl) (fun _ _ _ h => h) (Or.inl ⟨by rfl, ?_⟩) hHeld ?_ ?_
  rotate_left
  · rintro w' ⟨s0, s1⟩
    go_simp
    with_reducible rfl
  rotate_left
  · simp only [Act.put, List.setIfInBounds_toArray, List.set_cons_zero, List.set_cons_succ, i64_w, i32_w]
    rfl
  refine take_ (i := 3) (N := some 7) (v := ?_) (a' := ?_) (bl_ 6 15) rfl rfl (by kernel_rfl) (fun _ _ _ h => h) (Or.inl ⟨by rfl, ?_⟩) hHeld ?_ ?_
  rotate_left
  · rintro w' ⟨s0, s1⟩
    go_simp
    with_reducible rfl
  rotate_left
  · simp only [Act.put, List.setIfInBounds_toArray, List.set_cons_zero, List.set_cons_succ, i64_w, i32_w]
    rfl
  refine pure_ (i := 4) (N := some 8) (v := ?_) (a' := ?_) (bl_ 6 31) rfl rfl (by kernel_rfl) (fun _ _ _ h => h) (Or.inl ⟨by rfl, ?_⟩) ?_ ?_
  rotate_left
  · intro w'
    go_simp
    with_reducible rfl
  rotate_left
  · simp only [Act.put, List.setIfInBounds_toArray, List.set_cons_zero, List.set_cons_succ, i64_w, i32_w]
    rfl
  refine pure_ (i := 5) (N := some 3) (v := ?_) (a' := ?_) (bl_ 6 63) rfl rfl (by kernel_rfl) (fun _ _ _ h => h) (Or.inl ⟨by rfl, ?_⟩) ?_ ?_
  rotate_left
  · intro w'
    go_simp
    with_reducible rfl
  rotate_left
  · simp only [Act.put, List.setIfInBounds_toArray, List.set_cons_zero, List.set_cons_succ, i64_w, i32_w]
    rfl
  refine done_ (by kernel_rfl) ?_
  try go_wp2
  go_ret
  exact ⟨rfl, HB.out⟩
set_option maxHeartbeats 8000000 in
set_option maxRecDepth 100000 in
theorem slices_IndexFunc_int_int.main (gf : Nat) (lb : Array Value) (eg : ∀ args w, (callFunc gf args).run Try.prog w = .ok (.enter gf args) w) (gx : Nat) (A0 : Option Addr) (c0 : Nat) (l0 : List (List Int)) (x r : Int) (w : World) (hr0 : Kd.C (Kd.slice 3 (Kd.int .i64)) w A0 l0.length l0) (hc0 : l0.length ≤ c0) (hx : w.heap[gx]? = some (.cells #[.int .i64 x] 3 (0, 0))) (h : slices_IndexFunc_int_int.f l0 x = some r)
    (hcl : ∀ (A1 : Option Addr) (c1 : Nat) (l1 : List Int) (b : Bool) (w1 : World), Kd.C (Kd.int .i64) w1 A1 l1.length l1 → 0 < l1.length → w1.heap[gx]? = some (.cells #[.int .i64 x] 3 (0, 0)) → decide (rd l1 0 = x) = b → Calls Try.prog gf (#[.slice A1 l1.length c1] ++ lb) w1 fun e w' => e = .returned (.bool b) ∧ Below w1.heap.size w1 w') :
    Calls Try.prog 66 #[.slice A0 l0.length c0, .func (.func gf) #[] lb] w fun e w' => e = .returned (.int .i64 r) ∧ Below w.heap.size w w' := by
  have HR0 := Aside0.mk hr0
  have HC0 := Aside0.mk hc0
  have HX := Aside0.mk hx
  have HB := Aside0.mk (Below.refl w.heap.size w)
  have hsm : l0.length < 4611686018427387904 := by
    unfold slices_IndexFunc_int_int.f at h
    split at h
    · assumption
    · cases h
  have H' : Aside0 (idxF (l0.drop 0) x 0 = some r) := ⟨by
    unfold slices_IndexFunc_int_int.f at h
    rw [if_pos hsm] at h
    exact h⟩
  clear hr0 hc0 hx h
  replace hcl := Aside0.mk hcl
  go_enter Try.func66, Try.ntmps66
  go_wp2
  go_loopg [5, 8] l0.length (fun gg _ s8 wr => ∃ kk : Nat, s8 = .int .i64 kk ∧ Aside0 (kk ≤ l0.length) ∧ Aside0 (l0.length - kk ≤ gg) ∧ Aside0 (idxF (l0.drop kk) x kk = some r) ∧ Aside0 (Below w.heap.size w wr))
  case atStart => exact ⟨0, rfl, ⟨Nat.zero_le _⟩, ⟨by omega⟩, H', ⟨hB_⟩⟩
  case round =>
    clear H' HB
    obtain ⟨kk, rfl, HK, HG, HA, HB⟩ := hrel
    by_cases hlt : kk < l0.length
    · have hltz : (kk : Int) < (l0.length : Int) := by omega
      have h0z : (0 : Int) ≤ (kk : Int) := Int.natCast_nonneg kk
      have H := HA.out
      have hdr : l0.drop kk = rd_L1 l0 (kk : Int) :: l0.drop (kk + 1) := by
        rw [List.drop_eq_getElem_cons hlt]
        congr 1
        simp [rd_L1, hlt]
      rw [hdr] at H
      simp only [idxF] at H
      obtain ⟨ad1, A1, c1, e1, hx1, hl1, hi1⟩ := at_L1 (Kd.C_below HR0.out HB.out) (kk : Int) h0z hltz
      cases e1
      rw [show ((kk : Int)).toNat = kk from rfl] at hx1
      have HI := Aside0.mk hi1
      have HX1 := Aside0.mk (blk_below HX.out HB.out)
      clear hi1
      by_cases hne : 0 < (rd_L1 l0 (kk : Int)).length
      · rw [if_pos hne] at H
        by_cases hq : rd (rd_L1 l0 (kk : Int)) 0 = x
        · rw [if_pos hq] at H
          obtain rfl := Option.some.inj H
          have hd : decide (rd (rd_L1 l0 (kk : Int)) 0 = x) = true := decide_eq_true hq
          clear H
          go_wp2_with (fail)
          refine (hcl.out _ _ (rd_L1 l0 (kk : Int)) true wr HI.out hne HX1.out hd).mono ?_
          rintro e w2 ⟨rfl, hb⟩
          have HB2 := Aside0.mk (below_step HB.out hb)
          clear hb
          go_wp2
          go_ret
          exact ⟨rfl, by repeat (first | (with_reducible first | exact HB2.out | apply below_alloc | apply pw_below_drewN | apply below_drew1) | exact HB2.out)⟩
        · rw [if_neg hq] at H
          have H2 := Aside0.mk H
          clear H
          have hd : decide (rd (rd_L1 l0 (kk : Int)) 0 = x) = false := decide_eq_false hq
          go_wp2_with (fail)
          refine (hcl.out _ _ (rd_L1 l0 (kk : Int)) false wr HI.out hne HX1.out hd).mono ?_
          rintro e w2 ⟨rfl, hb⟩
          have HB2 := Aside0.mk (below_step HB.out hb)
          clear hb
          go_wp2
          go_roundg (l0.length - (kk + 1))
          case measure => have := HG.out; omega
          case rel => exact ⟨kk + 1, by congr 1, ⟨by omega⟩, ⟨by omega⟩, H2, ⟨by repeat (first | (with_reducible first | exact HB2.out | apply below_alloc | apply pw_below_drewN | apply below_drew1) | exact HB2.out)⟩⟩
      · rw [if_neg hne] at H
        cases H
    · have hltz : ¬ (kk : Int) < (l0.length : Int) := by omega
      have H := HA.out
      rw [List.drop_eq_nil_of_le (by omega)] at H
      simp only [idxF] at H
      obtain rfl := Option.some.inj H
      clear H
      go_wp2
      go_ret
      exact ⟨rfl, hB_⟩
theorem slices_IndexFunc_int_int.calls (gx : Nat) (A0 : Option Addr) (c0 : Nat) (l0 : List (List Int)) (x r : Int) (w : World) (hr0 : Kd.C (Kd.slice 3 (Kd.int .i64)) w A0 l0.length l0) (hc0 : l0.length ≤ c0) (hx : w.heap[gx]? = some (.cells #[.int .i64 x] 3 (0, 0))) (h : slices_IndexFunc_int_int.f l0 x = some r) :
    Calls Try.prog 66 #[.slice A0 l0.length c0, .func (.func 67) #[] #[.pointer (some ⟨gx, 0, none⟩)]] w fun e w' => e = .returned (.int .i64 r) ∧ Below w.heap.size w w' :=
  slices_IndexFunc_int_int.main 67 #[.pointer (some ⟨gx, 0, none⟩)] (fun args w => enters_ Try.func67 (by kernel_rfl) rfl args w) gx A0 c0 l0 x r w hr0 hc0 hx h (fun A1 c1 l1 b w1 h1 h2 h3 h4 => slices_IndexFunc_int_int.closure gx A1 c1 l1 x b w1 h1 h2 h3 h4)
end Go.Proofs.Ytbdnellgioimbaa.A
end
section
namespace Go.Proofs.Ytbdnellgioimbaa.A
open Go.RowKit Go.Proofs.YtbdnellgioimbaaW.PrintWords Go.Proofs.YtbdnellgioimbaaW.PrintLast Go.Proofs.YtbdnellgioimbaaW.PrintMore
attribute [local go_sem] max2_int min2_int max_two min_two max_three min_three max_four min_four
set_option linter.unusedVariables false
set_option linter.unusedSimpArgs false
mutual
def impl_CylindersOf.l0 : Nat → List (List Int) → List Int → Int → Int → List Int → List Int → Option ((List (S44)) × Bool)
  | 0, _, _, _, _, _, _ => none
  | k + 1, x4, x5, x30, x31, x646000, x646001 => if x31 < x30 then (if 0 ≤ x31 then (if x31 < (x5.length : Int) then (impl_CylindersOf.l0 k x4 (x5.set (x31 : Int).toNat x31) x30 (wrap64 (x31 + 1)) x646000 x646001) else (none)) else (none)) else (impl_CylindersOf.l1 k x4 x5 x4 (x4.length : Int) 0 x646000 x646001)
def impl_CylindersOf.l1 : Nat → List (List Int) → List Int → List (List Int) → Int → Int → List Int → List Int → Option ((List (S44)) × Bool)
  | 0, _, _, _, _, _, _, _ => none
  | k + 1, x4, x5, x39, x40, x41, x646000, x646001 => if x41 < x40 then (if 0 ≤ x41 then (if x41 < (x39.length : Int) then (if 0 < ((rd_L1 x39 x41).length : Int) then ((impl_RowAbove.f k x646000 x646001 (rd (rd_L1 x39 x41) 0)).bind fun t656 => (if t656 < 0 then (impl_CylindersOf.l1 k x4 x5 x39 x40 (wrap64 (x41 + 1)) x646000 x646001) else ((slices_IndexFunc_int_int.f x4 t656).bind fun t657 => (if x41 < (x5.length : Int) then (if 0 ≤ t657 then (if t657 < (x5.length : Int) then (impl_CylindersOf.l2 k x4 x5 (rd x5 x41) (rd x5 t657) x39 x40 x41 (x5.length : Int) 0 x646000 x646001) else (none)) else (none)) else (none))))) else (none)) else (none)) else (none)) else (impl_CylindersOf.l3 k x5 (([] : List (S44))) x4 (x4.length : Int) 0)
def impl_CylindersOf.l2 : Nat → List (List Int) → List Int → Int → Int → List (List Int) → Int → Int → Int → Int → List Int → List Int → Option ((List (S44)) × Bool)
  | 0, _, _, _, _, _, _, _, _, _, _, _ => none
  | k + 1, x4, x5, x11, x12, x39, x40, x41, x65, x66, x646000, x646001 => if x66 < x65 then (if 0 ≤ x66 then (if x66 < (x5.length : Int) then (if (rd x5 x66) = x11 then (impl_CylindersOf.l2 k x4 (x5.set (x66 : Int).toNat (mn x11 x12)) x11 x12 x39 x40 x41 x65 (wrap64 (x66 + 1)) x646000 x646001) else (if (rd x5 x66) = x12 then (impl_CylindersOf.l2 k x4 (x5.set (x66 : Int).toNat (mn x11 x12)) x11 x12 x39 x40 x41 x65 (wrap64 (x66 + 1)) x646000 x646001) else (impl_CylindersOf.l2 k x4 x5 x11 x12 x39 x40 x41 x65 (wrap64 (x66 + 1)) x646000 x646001))) else (none)) else (none)) else (impl_CylindersOf.l1 k x4 x5 x39 x40 (wrap64 (x41 + 1)) x646000 x646001)
def impl_CylindersOf.l3 : Nat → List Int → List (S44) → List (List Int) → Int → Int → Option ((List (S44)) × Bool)
  | 0, _, _, _, _, _ => none
  | k + 1, x5, x14, x92, x93, x94 => if x94 < x93 then (if 0 ≤ x94 then (if x94 < (x92.length : Int) then (if x94 < (x5.length : Int) then (if (rd x5 x94) = x94 then (impl_CylindersOf.l4 k x5 x14 x94 x92 x93 x94 x5 (x5.length : Int) 0 ((rd_L1 x92 x94).length : Int) 0) else (impl_CylindersOf.l3 k x5 x14 x92 x93 (wrap64 (x94 + 1)))) else (none)) else (none)) else (none)) else (some (x14, true))
def impl_CylindersOf.l4 : Nat → List Int → List (S44) → Int → List (List Int) → Int → Int → List Int → Int → Int → Int → Int → Option ((List (S44)) × Bool)
  | 0, _, _, _, _, _, _, _, _, _, _, _ => none
  | k + 1, x5, x14, x15, x92, x93, x94, x108, x109, x110, x670000, x670001 => if x110 < x109 then (if 0 ≤ x110 then (if x110 < (x108.length : Int) then (if (rd x108 x110) = x15 then (impl_CylindersOf.l4 k x5 x14 x15 x92 x93 x94 x108 x109 (wrap64 (x110 + 1)) x670000 (wrap64 (x670001 + 1))) else (impl_CylindersOf.l4 k x5 x14 x15 x92 x93 x94 x108 x109 (wrap64 (x110 + 1)) x670000 x670001)) else (none)) else (none)) else (if x14.length < 8796093022208 then (impl_CylindersOf.l3 k x5 (x14 ++ [(⟨x670000, x670001⟩ : S44)]) x92 x93 (wrap64 (x94 + 1))) else (none))
end
def impl_CylindersOf.f (k : Nat) (l0_0 : List Int) (l0_1 : List Int) : Option ((List (S44)) × Bool) := (impl_SurfaceOk.f k l0_0 l0_1).bind fun t646 => (if t646 = true then ((impl_CyclesOf.f k l0_0).bind fun t647 => (if 0 ≤ (t647.length : Int) then (if ((t647.length : Int) : Int).toNat ≤ 35184372088832 then ((some (List.replicate ((t647.length : Int) : Int).toNat 0 : List Int)).bind fun y650 => (impl_CylindersOf.l0 k t647 y650 (y650.length : Int) 0 l0_0 l0_1)) else (none)) else (none))) else (some (([] : List (S44)), false)))
theorem impl_CylindersOf.mono_l : ∀ k, (∀ y0 y1 y2 y3 y4 y5, LeO (impl_CylindersOf.l0 k y0 y1 y2 y3 y4 y5) (impl_CylindersOf.l0 (k + 1) y0 y1 y2 y3 y4 y5)) ∧ (∀ y0 y1 y2 y3 y4 y5 y6, LeO (impl_CylindersOf.l1 k y0 y1 y2 y3 y4 y5 y6) (impl_CylindersOf.l1 (k + 1) y0 y1 y2 y3 y4 y5 y6)) ∧ (∀ y0 y1 y2 y3 y4 y5 y6 y7 y8 y9 y10, LeO (impl_CylindersOf.l2 k y0 y1 y2 y3 y4 y5 y6 y7 y8 y9 y10) (impl_CylindersOf.l2 (k + 1) y0 y1 y2 y3 y4 y5 y6 y7 y8 y9 y10)) ∧ (∀ y0 y1 y2 y3 y4, LeO (impl_CylindersOf.l3 k y0 y1 y2 y3 y4) (impl_CylindersOf.l3 (k + 1) y0 y1 y2 y3 y4)) ∧ (∀ y0 y1 y2 y3 y4 y5 y6 y7 y8 y9 y10, LeO (impl_CylindersOf.l4 k y0 y1 y2 y3 y4 y5 y6 y7 y8 y9 y10) (impl_CylindersOf.l4 (k + 1) y0 y1 y2 y3 y4 y5 y6 y7 y8 y9 y10))
  | 0 => ⟨fun _ _ _ _ _ _ r h => by simp [impl_CylindersOf.l0] at h, fun _ _ _ _ _ _ _ r h => by simp [impl_CylindersOf.l1] at h, fun _ _ _ _ _ _ _ _ _ _ _ r h => by simp [impl_CylindersOf.l2] at h, fun _ _ _ _ _ r h => by simp [impl_CylindersOf.l3] at h, fun _ _ _ _ _ _ _ _ _ _ _ r h => by simp [impl_CylindersOf.l4] at h⟩
  | k + 1 => by
    obtain ⟨ih0, ih1, ih2, ih3, ih4⟩ := impl_CylindersOf.mono_l k
    refine ⟨?_, ?_, ?_, ?_, ?_⟩
    · intro y0 y1 y2 y3 y4 y5
      unfold impl_CylindersOf.l0
      repeat' first|exact ih0 _ _ _ _ _ _|exact ih1 _ _ _ _ _ _ _|exact ih2 _ _ _ _ _ _ _ _ _ _ _|exact ih3 _ _ _ _ _|exact ih4 _ _ _ _ _ _ _ _ _ _ _|exact impl_CyclesOf.mono _ _|exact impl_RowAbove.mono _ _ _ _|exact impl_SurfaceOk.mono _ _ _|exact lo_|refine LeO.ite ?_ ?_|refine LeO.bind ?_ (fun _ => ?_)
    · intro y0 y1 y2 y3 y4 y5 y6
      unfold impl_CylindersOf.l1
      repeat' first|exact ih0 _ _ _ _ _ _|exact ih1 _ _ _ _ _ _ _|exact ih2 _ _ _ _ _ _ _ _ _ _ _|exact ih3 _ _ _ _ _|exact ih4 _ _ _ _ _ _ _ _ _ _ _|exact impl_CyclesOf.mono _ _|exact impl_RowAbove.mono _ _ _ _|exact impl_SurfaceOk.mono _ _ _|exact lo_|refine LeO.ite ?_ ?_|refine LeO.bind ?_ (fun _ => ?_)
    · intro y0 y1 y2 y3 y4 y5 y6 y7 y8 y9 y10
      unfold impl_CylindersOf.l2
      repeat' first|exact ih0 _ _ _ _ _ _|exact ih1 _ _ _ _ _ _ _|exact ih2 _ _ _ _ _ _ _ _ _ _ _|exact ih3 _ _ _ _ _|exact ih4 _ _ _ _ _ _ _ _ _ _ _|exact impl_CyclesOf.mono _ _|exact impl_RowAbove.mono _ _ _ _|exact impl_SurfaceOk.mono _ _ _|exact lo_|refine LeO.ite ?_ ?_|refine LeO.bind ?_ (fun _ => ?_)
    · intro y0 y1 y2 y3 y4
      unfold impl_CylindersOf.l3
      repeat' first|exact ih0 _ _ _ _ _ _|exact ih1 _ _ _ _ _ _ _|exact ih2 _ _ _ _ _ _ _ _ _ _ _|exact ih3 _ _ _ _ _|exact ih4 _ _ _ _ _ _ _ _ _ _ _|exact impl_CyclesOf.mono _ _|exact impl_RowAbove.mono _ _ _ _|exact impl_SurfaceOk.mono _ _ _|exact lo_|refine LeO.ite ?_ ?_|refine LeO.bind ?_ (fun _ => ?_)
    · intro y0 y1 y2 y3 y4 y5 y6 y7 y8 y9 y10
      unfold impl_CylindersOf.l4
      repeat' first|exact ih0 _ _ _ _ _ _|exact ih1 _ _ _ _ _ _ _|exact ih2 _ _ _ _ _ _ _ _ _ _ _|exact ih3 _ _ _ _ _|exact ih4 _ _ _ _ _ _ _ _ _ _ _|exact impl_CyclesOf.mono _ _|exact impl_RowAbove.mono _ _ _ _|exact impl_SurfaceOk.mono _ _ _|exact lo_|refine LeO.ite ?_ ?_|refine LeO.bind ?_ (fun _ => ?_)
theorem impl_CylindersOf.mono : ∀ a0 a1 k, LeO (impl_CylindersOf.f k a0 a1) (impl_CylindersOf.f (k + 1) a0 a1) := by
  intro a0 a1 k
  obtain ⟨ih0, ih1, ih2, ih3, ih4⟩ := impl_CylindersOf.mono_l k
  unfold impl_CylindersOf.f
  repeat' first|exact ih0 _ _ _ _ _ _|exact ih1 _ _ _ _ _ _ _|exact ih2 _ _ _ _ _ _ _ _ _ _ _|exact ih3 _ _ _ _ _|exact ih4 _ _ _ _ _ _ _ _ _ _ _|exact impl_CyclesOf.mono _ _|exact impl_RowAbove.mono _ _ _ _|exact impl_SurfaceOk.mono _ _ _|exact lo_|refine LeO.ite ?_ ?_|refine LeO.bind ?_ (fun _ => ?_)
theorem cyl_at0 {w : World} {ad : Addr} {l : List Int} (h : Kd.C (Kd.int .i64) w (some ad) l.length l) (hl : 0 < l.length) : w.cell? ad = some (.int .i64 (rd l 0)) := by
  obtain ⟨ad', e, hx⟩ := Kd.at_int h 0 (by omega) (by omega)
  cases e
  (try rw [show ((0 : Int)).toNat = 0 from rfl] at hx)
  (try rw [Addr.add_zero'] at hx)
  exact hx
theorem cyl_store_step {P : Program} {ops : Array Oper} {o : Oper} {a : Act} {Q : Exit → Act → World → Prop} {Kc : Act → World → Prop} {W w1 : World} (hw : Region.wanted o (yielded ops a.tmps) = true) (hN : o.dst = none) (hrun : (execOp a.eval o).run P W = .ok .skip w1) (h : Kc a w1) : if Region.wanted o (yielded ops a.tmps) = true then Oper.wp P o a W Kc Q else Kc (a.put none undef) W := by
  rw [if_pos hw]
  unfold Oper.wp
  rw [hrun]
  show Kc (a.put o.dst undef) w1
  rw [hN]
  exact h
set_option maxHeartbeats 8000000 in
set_option maxRecDepth 100000 in
theorem impl_CylindersOf.calls (k : Nat) (A0_0 : Option Addr) (c0_0 : Nat) (l0_0 : List Int) (A0_1 : Option Addr) (c0_1 : Nat) (l0_1 : List Int) (r1 : List (S44)) (r2 : Bool) (w : World) (hr0_0 : Kd.C (Kd.int .i64) w A0_0 l0_0.length l0_0) (hc0_0 : l0_0.length ≤ c0_0) (hr0_1 : Kd.C (Kd.int .i64) w A0_1 l0_1.length l0_1) (hc0_1 : l0_1.length ≤ c0_1) (h : impl_CylindersOf.f k l0_0 l0_1 = some (r1, r2)) :
    Calls Try.prog 20 #[.agg #[.slice A0_0 l0_0.length c0_0, .slice A0_1 l0_1.length c0_1]] w fun e w' => ∃ v0_ : Value, e = .returned (.tuple #[v0_, .bool r2]) ∧ Kd.R k44 44 w' w.heap.size (fun _ => True) v0_ r1 ∧ Below w.heap.size w w' := by
  have hu27 := Try.underlying27
  have hu44 := Try.underlying44
  have HR0_0 := Aside0.mk hr0_0
  have HC0_0 := Aside0.mk hc0_0
  clear hr0_0 hc0_0
  have HR0_1 := Aside0.mk hr0_1
  have HC0_1 := Aside0.mk hc0_1
  clear hr0_1 hc0_1
  have HB := Aside0.mk (Below.refl w.heap.size w)
  have H := h
  unfold impl_CylindersOf.f at H
  clear h
  obtain ⟨t646, A2, H⟩ := bi_ H
  by_cases c3 : t646 = true
  · subst c3
    rw [if_pos rfl] at H
    obtain ⟨t647, A4, H⟩ := bi_ H
    have c5 := cp_ H
    replace H := ca_ H
    have c5b0 := eq_true c5
    have c5b1 := decide_eq_true c5
    clear c5
    have c6 := cp_ H
    replace H := ca_ H
    have c6b0 := eq_true c6
    have c6b1 := decide_eq_true c6
    clear c6
    obtain ⟨y650, hy650⟩ : ∃ y_ : List Int, y_ = (List.replicate ((t647.length : Int) : Int).toNat 0) := ⟨_, rfl⟩
    replace H : (impl_CylindersOf.l0 k t647 y650 (y650.length : Int) 0 l0_0 l0_1) = some (r1, r2) := by first | (rw [hy650]; exact H) | exact H
    have Ny650 := Aside0.mk hy650
    clear hy650
    have H' := Aside0.mk H
    clear H
    go_enter Try.func20, Try.ntmps20
    go_wp2_with (first | ((with_reducible refine gate_dst (N := 1) rfl ?_); refine bx_ 1 #[.slice A0_0 l0_0.length c0_0, .slice A0_1 l0_1.length c0_1] 27 ?_; intro gb645 hg w7 hbox hb; have BK645 := Aside0.mk hbox; have GW645 := gw_ w hg; have GE645 := GW645; replace HB := b1_ hb; clear hb hbox hg; obtain ⟨hcz8_0, hcz8_1, hfz8_0, hfz8_1⟩ := c2_ BK645) | ((with_reducible refine gate_callee (f := 65) rfl ?_); refine gL_ (some 21) Try.func65 #[.agg #[.slice A0_0 l0_0.length c0_0, .slice A0_1 l0_1.length c0_1]] rfl qa_ ?_; (with_reducible refine (impl_SurfaceOk.calls k _ _ l0_0 _ _ l0_1 true _ (cb_ HR0_0) HC0_0.out (cb_ HR0_1) HC0_1.out A2.out).mono ?_); rintro e w9 ⟨rfl, hb⟩; refine ⟨_, rfl, ?_⟩; replace BK645 := bb_ BK645 hb; replace HB := b1_ hb; clear hb; obtain ⟨hcz10_0, hcz10_1, hfz10_0, hfz10_1⟩ := c2_ BK645) | ((with_reducible refine gate_callee (f := 56) rfl ?_); refine gL_ (some 25) Try.func56 #[.slice A0_0 l0_0.length c0_0] rfl qa_ ?_; (with_reducible refine (impl_CyclesOf.calls k _ _ l0_0 t647 _ (cb_ HR0_0) HC0_0.out A4.out).mono ?_); rintro e w11 ⟨v648, rfl, ho0, hb⟩; refine ⟨_, rfl, ?_⟩; have HO649 := Aside0.mk (Kd.S_lower ho0 (below_size hB_)); replace BK645 := bb_ BK645 hb; replace HB := b1_ hb; clear hb ho0; obtain ⟨Ao12, co12, eo12⟩ := Kd.S_slice HO649.out; subst eo12) | ((with_reducible refine gate_dst (N := 28) rfl ?_); refine Kd.R_make (Kd.int .i64) _ 3 rfl (N := 28) rfl 22 _ _ rfl (t647.length : Int) rfl rfl Try.underlying22 (.int .i64 0) 8 info3 rfl (by decide) (by omega) 0 (ok := fun _ => True) (okp := fun _ => True) rfl (fun _ hk => hk) trivial (of_decide_eq_true qe_) (Nat.le_trans (Nat.mul_le_mul_right _ (of_decide_eq_true qe_ : (t647.length : Int).toNat ≤ 35184372088832)) (by omega)) (Below.refl _ _) (Nat.le_refl _) ?_; intro v651 w13 ho14 hb hg_ hnew_; clear hg_ hnew_; (first | rw [← Ny650.out] at ho14 | (simp only [Int.reduceToNat] at ho14; rw [← Ny650.out] at ho14)); replace HO649 := Aside0.mk (Kd.S_elder' (ss_ HO649) (Kd.R_base ho14) hb); have HO652 := rl_ w ho14; replace BK645 := bb_ BK645 hb; replace HB := b1_ hb; clear hb ho14; obtain ⟨Ao15, co15, eo15⟩ := Kd.R_slice HO652.out; subst eo15))
    go_loopg [31] k (fun kq v31 w' => ∃ (x5_1 : List Int) (x31_1 : Int), v31 = .int .i64 x31_1 ∧ Aside0 (impl_CylindersOf.l0 kq t647 x5_1 (y650.length : Int) x31_1 l0_0 l0_1 = some (r1, r2)) ∧ Aside0 (kq ≤ k) ∧ Aside0 (Kd.S (Kd.slice 3 (Kd.int .i64)) 22 w' w.heap.size (fun k_ => some k_ ≠ ((.slice Ao15 y650.length co15) : Value).ownBlock) (.slice Ao12 t647.length co12) t647) ∧ Aside0 (Kd.R (Kd.int .i64) 3 w' w.heap.size (fun _ => True) (.slice Ao15 y650.length co15) x5_1) ∧ Aside0 (w'.heap[gb645]? = some (.cells #[(.slice A0_0 l0_0.length c0_0), (.slice A0_1 l0_1.length c0_1)] 27 (0, 0))) ∧ Aside0 (Below w.heap.size w w'))
    case atStart => exact ⟨(y650), (0), qc_, H', ⟨Nat.le_refl _⟩, ⟨(sw_ (Kd.S_mono HO649.out (fun _ hk => hk.2)))⟩, ⟨(rr_ HO652)⟩, ⟨(kk_ BK645)⟩, ⟨hB_⟩⟩
    case round =>
      clear H'
      obtain ⟨x5_1, x31_1, rfl, HA, HK1, HO_4, HO_5, BK645, HB⟩ := hrel
      have hl5_1 := (Kd.R_reads' HO_5.out).1
      rw [hl5_1] at HO_5
      (try simp only [hl5_1])
      (try simp only [hl5_1] at BK645)
      (try simp only [hl5_1] at HO_4)
      cases gk with
      | zero => exact absurd HA.out (by simp [impl_CylindersOf.l0])
      | succ k1 =>
        have H := HA.out
        clear HA
        simp only [impl_CylindersOf.l0] at H
        by_cases c16 : x31_1 < (y650.length : Int)
        · rw [if_pos c16] at H
          have c16b0 := decide_eq_true c16
          clear c16
          have c17 := cp_ H
          replace H := ca_ H
          have c17b0 := decide_eq_true c17
          clear c17
          have c18 := cp_ H
          replace H := ca_ H
          have c18b0 := decide_eq_true c18
          clear c18
          obtain ⟨y653, hy653⟩ : ∃ y_ : List Int, y_ = (x5_1.set (x31_1 : Int).toNat x31_1) := ⟨_, rfl⟩
          replace H : (impl_CylindersOf.l0 k1 t647 y653 (y650.length : Int) (wrap64 (x31_1 + 1)) l0_0 l0_1) = some (r1, r2) := by first | (rw [hy653]; exact H) | exact H
          have Ny653 := Aside0.mk hy653
          clear hy653
          have H' := Aside0.mk H
          clear H
          have p19 : 0 ≤ (x31_1 : Int) := of_decide_eq_true qe_
          have q19 : (x31_1 : Int) < ((x5_1.length : Int) : Int) := of_decide_eq_true qe_
          obtain ⟨go19, co19, eo19, gb19, gl19, cl19, HG19⟩ := Kd.R_form HO_5.out (by omega)
          (first | cases eo19 | (injection eo19 with ea_ en_ ec_; (first | subst ea_ | (injection ea_ with ea_; subst ea_)); subst ec_; clear en_))
          have GB19 := Aside0.mk gb19
          have GG19 := Aside0.mk HG19
          clear gb19 gl19 HG19
          obtain ⟨hx19_0, hf19_0⟩ := Kd.R_celln 0 HO_5.out (x31_1 : Int) p19 q19
          replace p19 := eq_true p19
          replace q19 := eq_true q19
          have HP20 := Kd.R_putg HO_5.out (x31_1 : Int) x31_1
          go_wp2_with (first | ((with_reducible refine gate_store (t := 3) (p := 37) rfl ?_); refine store_event (t := 3) (p := 37) (v := ?vo_w21) (w1 := (wr.setCell ⟨go19, (x31_1 : Int).toNat, none⟩ (.int .i64 x31_1))) ?hg ?ho ?hn ?hr ?_; (case ho => rfl); (case hg => rfl); (case hn => rfl); (case hr => first | (go_simp; done) | (go_simp; rfl)); intro w21 hw; have hg : wr.grownBy w21 (some go19) := (by rw [hw]; exact HP20.2); have hp_ : Kd.R (Kd.int .i64) 3 w21 w.heap.size (fun _ => True) (.slice (some ⟨go19, 0, none⟩) x5_1.length co15) y653 := (by rw [hw, Ny653.out]; exact HP20.1); clear HP20; replace HO_4 := Aside0.mk (Kd.S_after (v := (.slice (some ⟨go19, 0, none⟩) x5_1.length co15)) (v1 := (.slice (some ⟨go19, 0, none⟩) x5_1.length co15)) (ok := (fun _ => True)) (sw_ (Kd.S_mono HO_4.out (fun _ hk => ⟨trivial, hk⟩))) hg (.inl rfl)); replace BK645 := Aside0.mk (blk_grown (kk_ BK645) hg (Kd.R_ne HO_5.out BK645.out (by decide))); replace HO_5 := Aside0.mk (hp_); replace HB := Aside0.mk ((by rw [hw]; exact below_set (HB.out) GB19.out : Below w.heap.size w w21)); clear hg hw hp_))
          (try simp only [← hl5_1])
          go_roundg k1
          case measure => have := HK1.out; omega
          case rel => exact ⟨(y653), (wrap64 (x31_1 + 1)), qc_, H', ⟨by have := HK1.out; omega⟩, ⟨by (try simp only [hl5_1]); (with_reducible repeat (first | apply Kd.S_alloc | apply Kd.S_drewN | apply Kd.S_drew)); exact Kd.S_mono HO_4.out (fun _ hk => hk.2)⟩, ⟨by (try simp only [hl5_1]); (with_reducible repeat (first | apply Kd.R_alloc | apply Kd.R_drewN | apply Kd.R_drew)); exact HO_5.out⟩, ⟨by (try simp only [hl5_1]); (with_reducible repeat (first | refine blk_drewN ?_ _ | refine blk_drew ?_ | refine blk_alloc ?_ _)); exact BK645.out⟩, ⟨hB_⟩⟩
        · rw [if_neg c16] at H
          have c16b0 := decide_eq_false c16
          (try simp only [hl5_1] at c16b0)
          clear c16
          have H' := Aside0.mk H
          clear H
          go_wp2
          go_loopg [41] k1 (fun kq v41 w' => ∃ (x5_2 : List Int) (x41_2 : Int), v41 = .int .i64 x41_2 ∧ Aside0 (impl_CylindersOf.l1 kq t647 x5_2 t647 (t647.length : Int) x41_2 l0_0 l0_1 = some (r1, r2)) ∧ Aside0 (kq ≤ k1) ∧ Aside0 (Kd.S (Kd.slice 3 (Kd.int .i64)) 22 w' w.heap.size (fun k_ => some k_ ≠ ((.slice Ao15 x5_1.length co15) : Value).ownBlock) (.slice Ao12 t647.length co12) t647) ∧ Aside0 (Kd.R (Kd.int .i64) 3 w' w.heap.size (fun _ => True) (.slice Ao15 x5_1.length co15) x5_2) ∧ Aside0 (Kd.S (Kd.slice 3 (Kd.int .i64)) 22 w' w.heap.size (fun k_ => some k_ ≠ ((.slice Ao15 x5_1.length co15) : Value).ownBlock) (.slice Ao12 t647.length co12) t647) ∧ Aside0 (w'.heap[gb645]? = some (.cells #[(.slice A0_0 l0_0.length c0_0), (.slice A0_1 l0_1.length c0_1)] 27 (0, 0))) ∧ Aside0 (Below w.heap.size w w'))
          case atStart => exact ⟨(x5_1), (0), qc_, H', ⟨Nat.le_refl _⟩, ⟨by (try simp only [hl5_1]); (with_reducible repeat (first | apply Kd.S_alloc | apply Kd.S_drewN | apply Kd.S_drew)); exact HO_4.out⟩, ⟨by (try simp only [hl5_1]); (with_reducible repeat (first | apply Kd.R_alloc | apply Kd.R_drewN | apply Kd.R_drew)); exact HO_5.out⟩, ⟨by (try simp only [hl5_1]); (with_reducible repeat (first | apply Kd.S_alloc | apply Kd.S_drewN | apply Kd.S_drew)); exact HO_4.out⟩, ⟨by (try simp only [hl5_1]); (with_reducible repeat (first | refine blk_drewN ?_ _ | refine blk_drew ?_ | refine blk_alloc ?_ _)); exact BK645.out⟩, ⟨hB_⟩⟩
          case round =>
            clear H'
            obtain ⟨x5_2, x41_2, rfl, HA, HK2, HO_4, HO_5, HO_39, BK645, HB⟩ := hrel
            have hl5_2 := (Kd.R_reads' HO_5.out).1
            rw [hl5_2] at HO_5
            (try simp only [hl5_2])
            (try simp only [hl5_2] at BK645)
            (try simp only [hl5_2] at HO_4)
            (try simp only [hl5_2] at HO_39)
            cases gk with
            | zero => exact absurd HA.out (by simp [impl_CylindersOf.l1])
            | succ k2 =>
              have H := HA.out
              clear HA
              simp only [impl_CylindersOf.l1] at H
              by_cases c22 : x41_2 < (t647.length : Int)
              · rw [if_pos c22] at H
                have c22b0 := decide_eq_true c22
                clear c22
                have c23 := cp_ H
                replace H := ca_ H
                have c23b0 := decide_eq_true c23
                clear c23
                have c24 := cp_ H
                replace H := ca_ H
                have c24b0 := decide_eq_true c24
                clear c24
                have c25 := cp_ H
                replace H := ca_ H
                have c25b0 := decide_eq_true c25
                have c25b1 : decide (0 < (rd_L1 t647 x41_2).length) = true := decide_eq_true (by omega)
                clear c25
                obtain ⟨t656, A26, H⟩ := bi_ H
                have p654 : 0 ≤ (x41_2 : Int) := of_decide_eq_true qe_
                have q654 : x41_2 < (t647.length : Int) := of_decide_eq_true qe_
                obtain ⟨ad654, A654_0, c654_0, e654, hx654_0, hl654_0, hi654_0⟩ := at_L1 (Kd.S_reads' HO_39.out).2.2 x41_2 p654 q654
                cases e654
                obtain ⟨ce654, hce654, hMe654, hcc654⟩ := Kd.S_get HO_39.out [] x41_2 p654 (by first | exact q654 | exact of_decide_eq_true qe_ | (have e_ := (Kd.S_reads' HO_39.out).1; omega))
                obtain ⟨ve654_0, rfl, ge654_0⟩ := hMe654
                have hv654_0 := hcc654 0 _ rfl
                rw [Nat.add_zero, show ((Kd.slice 3 (Kd.int .i64))).sz = 1 from rfl, Nat.mul_one] at hv654_0
                replace hv654_0 := Option.some.inj (hv654_0.symm.trans hx654_0)
                rw [hv654_0] at ge654_0
                have HL654_0 := Aside0.mk (show Kd.R (Kd.int .i64) 3 _ _ _ _ (rd_L1 t647 x41_2) from ge654_0)
                clear hv654_0 ge654_0
                clear hcc654 hce654
                have HR654_0 := Aside0.mk hi654_0
                have HC654_0 := Aside0.mk hl654_0
                clear hi654_0 hl654_0
                replace p654 := eq_true p654
                replace q654 := eq_true q654
                obtain ⟨hcz28_0, hcz28_1, hfz28_0, hfz28_1⟩ := c2_ BK645
                have p655 : 0 ≤ (0 : Int) := (by omega)
                have q655 : 0 < ((rd_L1 t647 x41_2).length : Int) := of_decide_eq_true qe_
                obtain ⟨ad655, e655, hx655_0⟩ := Kd.at_int (by repeat (first | (with_reducible exact HR654_0.out) | (with_reducible refine Kd.C_alloc ?_ _) | (with_reducible refine Kd.C_drewN ?_ _) | (with_reducible refine Kd.C_drew ?_) | exact HR654_0.out)) 0 p655 q655
                cases e655
                have qi655 : (0 < (rd_L1 t647 x41_2).length) = True := eq_true (by omega)
                (try rw [show ((0 : Int)).toNat = 0 from rfl] at hx655_0)
                (try rw [Addr.add_zero'] at hx655_0)
                replace p655 := eq_true p655
                replace q655 := eq_true q655
                go_upto_region 13 with (fail)
                replace HO_4 := Aside0.mk (Kd.S_drew HO_4.out)
                replace HO_5 := Aside0.mk (Kd.R_drew HO_5.out)
                replace HO_39 := Aside0.mk (Kd.S_drew HO_39.out)
                replace HL654_0 := Aside0.mk (Kd.R_drew HL654_0.out)
                replace BK645 := Aside0.mk (blk_drew BK645.out)
                replace HR654_0 := Aside0.mk (Kd.C_drew HR654_0.out)
                replace HB := Aside0.mk (below_drew1 HB.out)
                have hqr_ : 0 < (rd_L1 t647 x41_2).length := of_eq_true qi655
                refine start_ (n := 7) (S := fun w' => w'.cell? ⟨gb645, 0, none⟩ = some (.slice A0_0 l0_0.length c0_0) ∧ w'.cell? ⟨gb645, 1, none⟩ = some (.slice A0_1 l0_1.length c0_1) ∧ w'.cell? ad655 = some (.int .i64 (rd (rd_L1 t647 x41_2) 0))) (ds := []) (bl_ 7 0) (by kernel_rfl) rfl (by kernel_rfl) ⟨cz0_ BK645, cz1_ BK645, cyl_at0 HR654_0.out hqr_⟩ (fun hHeld => ?_)
                generalize hwd_ : wr.drew = wd_ at HO_4 HO_5 HO_39 HL654_0 BK645 HR654_0 HB hHeld ⊢
                clear hwd_
                refine pure_ (i := 1) (N := some 47) (v := ?_) (a' := ?_) (bl_ 7 2) rfl rfl (by kernel_rfl) (fun _ _ _ h => h) (Or.inl ⟨by rfl, ?_⟩) ?_ ?_
                rotate_left
                · intro w'
                  go_simp
                  with_reducible rfl
                rotate_left
                · simp only [Act.put, List.setIfInBounds_toArray, List.set_cons_zero, List.set_cons_succ, i64_w, i32_w]
                  rfl
                refine pure_ (i := 2) (N := some 48) (v := ?_) (a' := ?_) (bl_ 7 6) rfl rfl (by kernel_rfl) (fun _ _ _ h => h) (Or.inl ⟨by rfl, ?_⟩) ?_ ?_
                rotate_left
                · intro w'
                  go_simp
                  with_reducible rfl
                rotate_left
                · simp only [Act.put, List.setIfInBounds_toArray, List.set_cons_zero, List.set_cons_succ, i64_w, i32_w]
                  rfl
                refine take_ (i := 0) (N := some 46) (v := ?_) (a' := ?_) (bl_ 7 7) rfl rfl (by kernel_rfl) (fun _ _ _ h => h) (Or.inl ⟨by rfl, ?_⟩) hHeld ?_ ?_
                rotate_left
                · rintro w' ⟨s0, s1, s2⟩
                  go_simp
                  with_reducible rfl
                rotate_left
                · simp only [Act.put, List.setIfInBounds_toArray, List.set_cons_zero, List.set_cons_succ, i64_w, i32_w]
                  rfl
                refine take_ (i := 3) (N := some 49) (v := ?_) (a' := ?_) (bl_ 7 15) rfl rfl (by kernel_rfl) (fun _ _ _ h => h) (Or.inl ⟨by rfl, ?_⟩) hHeld ?_ ?_
                rotate_left
                · rintro w' ⟨s0, s1, s2⟩
                  go_simp
                  with_reducible rfl
                rotate_left
                · simp only [Act.put, List.setIfInBounds_toArray, List.set_cons_zero, List.set_cons_succ, i64_w, i32_w]
                  rfl
                have hBW_ := Below.refl wd_.heap.size wd_
                refine join_ (σ := Nat) 1 (bl_ 7 63) (fun s_ => [(50, .int .i64 t656), (9, .pointer (some ⟨s_, 0, none⟩))]) (fun s_ w' => (w'.cell? ⟨gb645, 0, none⟩ = some (.slice A0_0 l0_0.length c0_0) ∧ w'.cell? ⟨gb645, 1, none⟩ = some (.slice A0_1 l0_1.length c0_1) ∧ w'.cell? ad655 = some (.int .i64 (rd (rd_L1 t647 x41_2) 0))) ∧ Below wd_.heap.size wd_ w' ∧ w'.heap[s_]? = some (.cells #[.int .i64 0] 3 (0, 0)) ∧ wd_.heap.size ≤ s_) ?_ ?_
                rotate_left
                · intro hCont
                  refine two_ (i := 4) (j := 5) (Ni := some 50) (Nj := some 9) (bl_ 7 31) (bl_ 7 47) rfl rfl rfl rfl (by kernel_rfl) (by decide) (by decide) (fun K hK => ?_) (fun K hK => ?_)
                  · refine gO_ Try.func30 #[.agg #[.slice A0_0 l0_0.length c0_0, .slice A0_1 l0_1.length c0_1], .int .i64 (rd (rd_L1 t647 x41_2) 0)] (by rfl) rfl rfl (by (try simp only [List.map_toArray, List.map_cons, List.map_nil]); first | done | rfl) ?_
                    with_reducible refine (impl_RowAbove.calls k2 _ _ l0_0 _ _ l0_1 (rd (rd_L1 t647 x41_2) 0) t656 _ ?side1 ?side2 ?side3 ?side4 A26.out).mono ?_
                    (case side1 => exact cb_ HR0_0); (case side2 => exact HC0_0.out); (case side3 => exact cb_ HR0_1); (case side4 => exact HC0_1.out)
                    rintro e wc_ ⟨rfl, hb⟩
                    refine ⟨_, rfl, ?_⟩
                    refine hK.out _ _ ⟨(blk_cell (blk_below BK645.out hb) 0).trans rfl, (blk_cell (blk_below BK645.out hb) 1).trans rfl, cyl_at0 (Kd.C_below HR654_0.out hb) hqr_⟩ (fun hHeld => ?_)
                    refine no_ (some 50) ?_
                    refine one_ (i := 5) (N := some 9) (bl_ 7 63) rfl rfl (by kernel_rfl) (by decide) (fun K hK => ?_)
                    refine box_step ?hg (N := 9) ?hd (cs := #[.int .i64 0]) (t := 3) ?hr ?_; (case hd => rfl); (case hg => rfl); (case hr => first | (go_simp; done) | (go_simp; rfl))
                    intro gx_ hgx_ wa_ hbx_ hba_
                    have hbb_ := below_step hb hba_
                    refine hK.out _ _ ⟨(blk_cell (blk_below BK645.out hbb_) 0).trans rfl, (blk_cell (blk_below BK645.out hbb_) 1).trans rfl, cyl_at0 (Kd.C_below HR654_0.out hbb_) hqr_⟩ (fun hHeld => ?_)
                    refine no_ (some 9) ?_
                    exact norm_ (by simp only [putAll, Act.put, List.setIfInBounds_toArray, List.set_cons_zero, List.set_cons_succ]) (hCont gx_ _ ⟨⟨(blk_cell (blk_below BK645.out hbb_) 0).trans rfl, (blk_cell (blk_below BK645.out hbb_) 1).trans rfl, cyl_at0 (Kd.C_below HR654_0.out hbb_) hqr_⟩, hbb_, hbx_, (by rw [hgx_]; exact hb.size)⟩)
                  · refine box_step ?hg (N := 9) ?hd (cs := #[.int .i64 0]) (t := 3) ?hr ?_; (case hd => rfl); (case hg => rfl); (case hr => first | (go_simp; done) | (go_simp; rfl))
                    intro gx_ hgx_ wa_ hbx_ hba_
                    refine hK.out _ _ ⟨(blk_cell (blk_below BK645.out hba_) 0).trans rfl, (blk_cell (blk_below BK645.out hba_) 1).trans rfl, cyl_at0 (Kd.C_below HR654_0.out hba_) hqr_⟩ (fun hHeld => ?_)
                    refine no_ (some 9) ?_
                    refine one_ (i := 4) (N := some 50) (bl_ 7 63) rfl rfl (by kernel_rfl) (by decide) (fun K hK => ?_)
                    have HB0_ := HB
                    replace HB := Aside0.mk (below_step HB.out hba_)
                    refine gO_ Try.func30 #[.agg #[.slice A0_0 l0_0.length c0_0, .slice A0_1 l0_1.length c0_1], .int .i64 (rd (rd_L1 t647 x41_2) 0)] (by rfl) rfl rfl (by (try simp only [List.map_toArray, List.map_cons, List.map_nil]); first | done | rfl) ?_
                    with_reducible refine (impl_RowAbove.calls k2 _ _ l0_0 _ _ l0_1 (rd (rd_L1 t647 x41_2) 0) t656 _ ?side1 ?side2 ?side3 ?side4 A26.out).mono ?_
                    (case side1 => exact cb_ HR0_0); (case side2 => exact HC0_0.out); (case side3 => exact cb_ HR0_1); (case side4 => exact HC0_1.out)
                    rintro e wc_ ⟨rfl, hb⟩
                    refine ⟨_, rfl, ?_⟩
                    have hbb_ := below_step hba_ hb
                    refine hK.out _ _ ⟨(blk_cell (blk_below BK645.out hbb_) 0).trans rfl, (blk_cell (blk_below BK645.out hbb_) 1).trans rfl, cyl_at0 (Kd.C_below HR654_0.out hbb_) hqr_⟩ (fun hHeld => ?_)
                    refine no_ (some 50) ?_
                    exact norm_ (by simp only [putAll, Act.put, List.setIfInBounds_toArray, List.set_cons_zero, List.set_cons_succ]) (hCont gx_ _ ⟨⟨(blk_cell (blk_below BK645.out hbb_) 0).trans rfl, (blk_cell (blk_below BK645.out hbb_) 1).trans rfl, cyl_at0 (Kd.C_below HR654_0.out hbb_) hqr_⟩, hbb_, (blk_below hbx_ hb), (by rw [hgx_]; exact Nat.le_refl _)⟩)
                rintro gx_ wj_ ⟨hHeld, hb, hgx_, hge_⟩
                refine norm_ (a' := ?_) ?_ ?_
                rotate_left
                · simp only [putAll, Act.put, List.setIfInBounds_toArray, List.set_cons_zero, List.set_cons_succ]
                  rfl
                refine one_ (i := 6) (N := none) (bl_ 7 127) rfl rfl (by kernel_rfl) (by decide) (fun K hK => ?_)
                have hcgx_ : wj_.cell? ⟨gx_, 0, none⟩ = some (.int .i64 0) := (blk_cell hgx_ 0).trans rfl
                have hfgx_ := blk_frozen hgx_ 0
                refine cyl_store_step (w1 := wj_.setCell ⟨gx_, 0, none⟩ (.int .i64 t656)) ?hg ?hn ?hr ?_; (case hg => rfl); (case hn => rfl); (case hr => first | (go_simp; done) | (go_simp; rfl))
                have hb2_ : Below wd_.heap.size wd_ (wj_.setCell ⟨gx_, 0, none⟩ (.int .i64 t656)) := below_set hb hge_
                have HXX := Aside0.mk (blk_put (cs := #[.int .i64 0]) (cs' := #[.int .i64 t656]) hgx_ 0 (.int .i64 t656) rfl)
                clear hcgx_ hfgx_ hgx_ hb hHeld
                generalize wj_.setCell ⟨gx_, 0, none⟩ (.int .i64 t656) = ws_ at hb2_ HXX ⊢
                refine hK.out _ _ ⟨(blk_cell (blk_below BK645.out hb2_) 0).trans rfl, (blk_cell (blk_below BK645.out hb2_) 1).trans rfl, cyl_at0 (Kd.C_below HR654_0.out hb2_) hqr_⟩ (fun hHeld => ?_)
                refine done_ (by kernel_rfl) ?_
                have hb := hb2_
                clear hK K hb2_ hHeld hBW_
                replace HO_4 := sb_ HO_4 hb; replace HO_5 := rb_ HO_5 hb; replace HO_39 := sb_ HO_39 hb; replace HL654_0 := rb_ HL654_0 hb; replace BK645 := bb_ BK645 hb; replace HR654_0 := Aside0.mk (Kd.C_below (by repeat (first | (with_reducible exact HR654_0.out) | (with_reducible refine Kd.C_alloc ?_ _) | (with_reducible refine Kd.C_drewN ?_ _) | (with_reducible refine Kd.C_drew ?_) | exact HR654_0.out)) hb); replace HB := b1_ hb; (try clear hb); (try clear hb2); (try clear hk); (try clear hi)
                have hcgx_ : ws_.cell? ⟨gx_, 0, none⟩ = some (.int .i64 t656) := (blk_cell HXX.out 0).trans rfl
                by_cases c27 : t656 < 0
                · rw [if_pos c27] at H
                  have c27b0 := decide_eq_true c27
                  clear c27
                  have H' := Aside0.mk H
                  clear H
                  go_wp2
                  (try simp only [← hl5_2])
                  go_roundg k2
                  case measure => have := HK1.out; have := HK2.out; omega
                  case rel => exact ⟨(x5_2), (wrap64 (x41_2 + 1)), qc_, H', ⟨by have := HK1.out; have := HK2.out; omega⟩, ⟨by (try simp only [hl5_1]); (try simp only [hl5_2]); (with_reducible repeat (first | apply Kd.S_alloc | apply Kd.S_drewN | apply Kd.S_drew)); exact HO_4.out⟩, ⟨by (try simp only [hl5_1]); (try simp only [hl5_2]); (with_reducible repeat (first | apply Kd.R_alloc | apply Kd.R_drewN | apply Kd.R_drew)); exact HO_5.out⟩, ⟨by (try simp only [hl5_1]); (try simp only [hl5_2]); (with_reducible repeat (first | apply Kd.S_alloc | apply Kd.S_drewN | apply Kd.S_drew)); exact HO_39.out⟩, ⟨by (try simp only [hl5_1]); (try simp only [hl5_2]); (with_reducible repeat (first | refine blk_drewN ?_ _ | refine blk_drew ?_ | refine blk_alloc ?_ _)); exact BK645.out⟩, ⟨hB_⟩⟩
                · rw [if_neg c27] at H
                  have c27b0 := decide_eq_false c27
                  clear c27
                  obtain ⟨t657, A30, H⟩ := bi_ H
                  have c31 := cp_ H
                  replace H := ca_ H
                  have c31b0 := decide_eq_true c31
                  clear c31
                  have c32 := cp_ H
                  replace H := ca_ H
                  have c32b0 := decide_eq_true c32
                  clear c32
                  have c33 := cp_ H
                  replace H := ca_ H
                  have c33b0 := decide_eq_true c33
                  clear c33
                  have H' := Aside0.mk H
                  clear H
                  go_wp2_with (first | ((with_reducible refine gate_callee (f := 66) rfl ?_); refine gL_ (some 55) Try.func66 #[.slice (some ad654) t647.length co12, .func (.func 67) #[] #[.pointer (some ⟨gx_, 0, none⟩)]] rfl qa_ ?_; (with_reducible refine (slices_IndexFunc_int_int.calls gx_ _ _ t647 t656 t657 _ ?side1 ?side2 ?side3 A30.out).mono ?_); (case side1 => exact cw_ ((Kd.S_reads' HO_4.out).2.2)); (case side2 => exact (Kd.S_reads' HO_4.out).2.1); (case side3 => (with_reducible repeat (first | refine blk_drewN ?_ _ | refine blk_drew ?_ | refine blk_alloc ?_ _)); exact HXX.out); clear hcgx_; rintro e w36 ⟨rfl, hb⟩; refine ⟨_, rfl, ?_⟩; replace HO_4 := sb_ HO_4 hb; replace HO_5 := rb_ HO_5 hb; replace HO_39 := sb_ HO_39 hb; replace HL654_0 := rb_ HL654_0 hb; replace BK645 := bb_ BK645 hb; replace HR654_0 := Aside0.mk (Kd.C_below (by repeat (first | (with_reducible exact HR654_0.out) | (with_reducible refine Kd.C_alloc ?_ _) | (with_reducible refine Kd.C_drewN ?_ _) | (with_reducible refine Kd.C_drew ?_) | exact HR654_0.out)) hb); replace HB := b1_ hb; clear hb; have p658 : 0 ≤ (x41_2 : Int) := of_decide_eq_true qe_; have q658 : x41_2 < (x5_2.length : Int) := of_decide_eq_true qe_; obtain ⟨ad658, e658, hx658_0⟩ := Kd.at_int (Kd.R_reads' HO_5.out).2.2 x41_2 p658 q658; cases e658; replace p658 := eq_true p658; replace q658 := eq_true q658; have p659 : 0 ≤ (t657 : Int) := of_decide_eq_true qe_; have q659 : t657 < (x5_2.length : Int) := of_decide_eq_true qe_; obtain ⟨ad659, e659, hx659_0⟩ := Kd.at_int (Kd.R_reads' HO_5.out).2.2 t657 p659 q659; obtain rfl : ad658 = ad659 := (by injection e659); replace p659 := eq_true p659; replace q659 := eq_true q659))
                  generalize Value.pointer (some (ad658.add (x41_2 : Int).toNat)) = vp0_
                  generalize Value.pointer (some (ad658.add (t657 : Int).toNat)) = vp1_
                  go_loopg [66] k2 (fun kq v66 w' => ∃ (x5_3 : List Int) (x66_3 : Int), v66 = .int .i64 x66_3 ∧ Aside0 (impl_CylindersOf.l2 kq t647 x5_3 (rd x5_2 x41_2) (rd x5_2 t657) t647 (t647.length : Int) x41_2 (x5_2.length : Int) x66_3 l0_0 l0_1 = some (r1, r2)) ∧ Aside0 (kq ≤ k2) ∧ Aside0 (Kd.S (Kd.slice 3 (Kd.int .i64)) 22 w' w.heap.size (fun k_ => some k_ ≠ ((.slice (some ad658) x5_2.length co15) : Value).ownBlock) (.slice (some ad654) t647.length co12) t647) ∧ Aside0 (Kd.R (Kd.int .i64) 3 w' w.heap.size (fun _ => True) (.slice (some ad658) x5_2.length co15) x5_3) ∧ Aside0 (Kd.S (Kd.slice 3 (Kd.int .i64)) 22 w' w.heap.size (fun k_ => some k_ ≠ ((.slice (some ad658) x5_2.length co15) : Value).ownBlock) (.slice (some ad654) t647.length co12) t647) ∧ Aside0 (w'.heap[gb645]? = some (.cells #[(.slice A0_0 l0_0.length c0_0), (.slice A0_1 l0_1.length c0_1)] 27 (0, 0))) ∧ Aside0 (Below w.heap.size w w'))
                  case atStart => exact ⟨(x5_2), (0), qc_, H', ⟨Nat.le_refl _⟩, ⟨by (try simp only [hl5_1]); (try simp only [hl5_2]); (with_reducible repeat (first | apply Kd.S_alloc | apply Kd.S_drewN | apply Kd.S_drew)); exact HO_4.out⟩, ⟨by (try simp only [hl5_1]); (try simp only [hl5_2]); (with_reducible repeat (first | apply Kd.R_alloc | apply Kd.R_drewN | apply Kd.R_drew)); exact HO_5.out⟩, ⟨by (try simp only [hl5_1]); (try simp only [hl5_2]); (with_reducible repeat (first | apply Kd.S_alloc | apply Kd.S_drewN | apply Kd.S_drew)); exact HO_39.out⟩, ⟨by (try simp only [hl5_1]); (try simp only [hl5_2]); (with_reducible repeat (first | refine blk_drewN ?_ _ | refine blk_drew ?_ | refine blk_alloc ?_ _)); exact BK645.out⟩, ⟨hB_⟩⟩
                  case round =>
                    clear H'
                    obtain ⟨x5_3, x66_3, rfl, HA, HK3, HO_4, HO_5, HO_39, BK645, HB⟩ := hrel
                    have hl5_3 := (Kd.R_reads' HO_5.out).1
                    rw [hl5_3] at HO_5
                    (try simp only [hl5_3])
                    (try simp only [hl5_3] at BK645)
                    (try simp only [hl5_3] at HO_4)
                    (try simp only [hl5_3] at HO_39)
                    cases gk with
                    | zero => exact absurd HA.out (by simp [impl_CylindersOf.l2])
                    | succ k3 =>
                      have H := HA.out
                      clear HA
                      simp only [impl_CylindersOf.l2] at H
                      by_cases c37 : x66_3 < (x5_2.length : Int)
                      · rw [if_pos c37] at H
                        have c37b0 := decide_eq_true c37
                        clear c37
                        have c38 := cp_ H
                        replace H := ca_ H
                        have c38b0 := decide_eq_true c38
                        clear c38
                        have c39 := cp_ H
                        replace H := ca_ H
                        have c39b0 := decide_eq_true c39
                        clear c39
                        by_cases c40 : (rd x5_3 x66_3) = (rd x5_2 x41_2)
                        · rw [if_pos c40] at H
                          have c40b0 : ((rd x5_3 x66_3) == (rd x5_2 x41_2)) = true := beq_iff_eq.mpr c40
                          have c40b1 : ((rd x5_3 x66_3) != (rd x5_2 x41_2)) = false := bne_eq_false_iff_eq.mpr c40
                          clear c40
                          obtain ⟨ji41, hji41⟩ : ∃ j_ : Int, (mn (rd x5_2 x41_2) (rd x5_2 t657)) = j_ := ⟨_, rfl⟩
                          replace H : (impl_CylindersOf.l2 k3 t647 (x5_3.set (x66_3 : Int).toNat (ji41)) (rd x5_2 x41_2) (rd x5_2 t657) t647 (t647.length : Int) x41_2 (x5_2.length : Int) (wrap64 (x66_3 + 1)) l0_0 l0_1) = some (r1, r2) := by first | (rw [hji41] at H; exact H) | (simp only [hji41] at H ⊢; exact H)
                          have hji41_ : (if (rd x5_2 t657) < (rd x5_2 x41_2) then (rd x5_2 t657) else (rd x5_2 x41_2)) = ji41 := hji41
                          obtain ⟨y661, hy661⟩ : ∃ y_ : List Int, y_ = (x5_3.set (x66_3 : Int).toNat (ji41)) := ⟨_, rfl⟩
                          replace H : (impl_CylindersOf.l2 k3 t647 y661 (rd x5_2 x41_2) (rd x5_2 t657) t647 (t647.length : Int) x41_2 (x5_2.length : Int) (wrap64 (x66_3 + 1)) l0_0 l0_1) = some (r1, r2) := by first | (rw [hy661]; exact H) | exact H
                          have Ny661 := Aside0.mk hy661
                          clear hy661
                          have H' := Aside0.mk H
                          clear H
                          have p660 : 0 ≤ (x66_3 : Int) := of_decide_eq_true qe_
                          have q660 : x66_3 < (x5_3.length : Int) := of_decide_eq_true qe_
                          obtain ⟨ad660, e660, hx660_0⟩ := Kd.at_int (Kd.R_reads' HO_5.out).2.2 x66_3 p660 q660
                          obtain rfl : ad658 = ad660 := (by injection e660)
                          replace p660 := eq_true p660
                          replace q660 := eq_true q660
                          have p42 : 0 ≤ (x66_3 : Int) := of_decide_eq_true qe_
                          have q42 : (x66_3 : Int) < ((x5_3.length : Int) : Int) := of_decide_eq_true qe_
                          obtain ⟨go42, co42, eo42, gb42, gl42, cl42, HG42⟩ := Kd.R_form HO_5.out (by omega)
                          (first | cases eo42 | (injection eo42 with ea_ en_ ec_; (first | subst ea_ | (injection ea_ with ea_; subst ea_)); subst ec_; clear en_))
                          have GB42 := Aside0.mk gb42
                          have GG42 := Aside0.mk HG42
                          clear gb42 gl42 HG42
                          (first | simp only [add_plain] at hx658_0 | skip)
                          (first | simp only [add_plain] at hx659_0 | skip)
                          (first | simp only [add_plain] at hx660_0 | skip)
                          obtain ⟨hx42_0, hf42_0⟩ := Kd.R_celln 0 HO_5.out (x66_3 : Int) p42 q42
                          replace p42 := eq_true p42
                          replace q42 := eq_true q42
                          have HP43 := Kd.R_putg HO_5.out (x66_3 : Int) ji41
                          go_wp2_with (first | ((with_reducible refine gate_store (t := 3) (p := 88) rfl ?_); refine store_event (t := 3) (p := 88) (v := ?vo_w44) (w1 := (wr.setCell ⟨go42, (x66_3 : Int).toNat, none⟩ (.int .i64 ji41))) ?hg ?ho ?hn ?hr ?_; (case ho => rfl); (case hg => rfl); (case hn => rfl); (case hr => first | (go_simp; done) | (go_simp; rfl)); intro w44 hw; have hg : wr.grownBy w44 (some go42) := (by rw [hw]; exact HP43.2); have hp_ : Kd.R (Kd.int .i64) 3 w44 w.heap.size (fun _ => True) (.slice (some ⟨go42, 0, none⟩) x5_3.length co15) y661 := (by rw [hw, Ny661.out]; exact HP43.1); clear HP43; replace HO_4 := Aside0.mk (Kd.S_after (v := (.slice (some ⟨go42, 0, none⟩) x5_3.length co15)) (v1 := (.slice (some ⟨go42, 0, none⟩) x5_3.length co15)) (ok := (fun _ => True)) (sw_ (Kd.S_mono HO_4.out (fun _ hk => ⟨trivial, hk⟩))) hg (.inl rfl)); replace HO_39 := Aside0.mk (Kd.S_after (v := (.slice (some ⟨go42, 0, none⟩) x5_3.length co15)) (v1 := (.slice (some ⟨go42, 0, none⟩) x5_3.length co15)) (ok := (fun _ => True)) (sw_ (Kd.S_mono HO_39.out (fun _ hk => ⟨trivial, hk⟩))) hg (.inl rfl)); replace BK645 := Aside0.mk (blk_grown (kk_ BK645) hg (Kd.R_ne HO_5.out BK645.out (by decide))); replace HO_5 := Aside0.mk (hp_); replace HB := Aside0.mk ((by rw [hw]; exact below_set (HB.out) GB42.out : Below w.heap.size w w44)); clear hg hw hp_))
                          (try simp only [← hl5_3])
                          go_roundg k3
                          case measure => have := HK1.out; have := HK2.out; have := HK3.out; omega
                          case rel => exact ⟨(y661), (wrap64 (x66_3 + 1)), qc_, H', ⟨by have := HK1.out; have := HK2.out; have := HK3.out; omega⟩, ⟨by (try simp only [hl5_1]); (try simp only [hl5_2]); (try simp only [hl5_3]); (with_reducible repeat (first | apply Kd.S_alloc | apply Kd.S_drewN | apply Kd.S_drew)); exact Kd.S_mono HO_4.out (fun _ hk => hk.2)⟩, ⟨by (try simp only [hl5_1]); (try simp only [hl5_2]); (try simp only [hl5_3]); (with_reducible repeat (first | apply Kd.R_alloc | apply Kd.R_drewN | apply Kd.R_drew)); exact HO_5.out⟩, ⟨by (try simp only [hl5_1]); (try simp only [hl5_2]); (try simp only [hl5_3]); (with_reducible repeat (first | apply Kd.S_alloc | apply Kd.S_drewN | apply Kd.S_drew)); exact Kd.S_mono HO_39.out (fun _ hk => hk.2)⟩, ⟨by (try simp only [hl5_1]); (try simp only [hl5_2]); (try simp only [hl5_3]); (with_reducible repeat (first | refine blk_drewN ?_ _ | refine blk_drew ?_ | refine blk_alloc ?_ _)); exact BK645.out⟩, ⟨hB_⟩⟩
                        · rw [if_neg c40] at H
                          have c40b0 : ((rd x5_3 x66_3) == (rd x5_2 x41_2)) = false := beq_eq_false_iff_ne.mpr c40
                          have c40b1 : ((rd x5_3 x66_3) != (rd x5_2 x41_2)) = true := bne_iff_ne.mpr c40
                          by_cases c45 : (rd x5_3 x66_3) = (rd x5_2 t657)
                          · rw [if_pos c45] at H
                            have c45b0 : ((rd x5_3 x66_3) == (rd x5_2 t657)) = true := beq_iff_eq.mpr c45
                            have c45b1 : ((rd x5_3 x66_3) != (rd x5_2 t657)) = false := bne_eq_false_iff_eq.mpr c45
                            clear c45
                            obtain ⟨ji46, hji46⟩ : ∃ j_ : Int, (mn (rd x5_2 x41_2) (rd x5_2 t657)) = j_ := ⟨_, rfl⟩
                            replace H : (impl_CylindersOf.l2 k3 t647 (x5_3.set (x66_3 : Int).toNat (ji46)) (rd x5_2 x41_2) (rd x5_2 t657) t647 (t647.length : Int) x41_2 (x5_2.length : Int) (wrap64 (x66_3 + 1)) l0_0 l0_1) = some (r1, r2) := by first | (rw [hji46] at H; exact H) | (simp only [hji46] at H ⊢; exact H)
                            have hji46_ : (if (rd x5_2 t657) < (rd x5_2 x41_2) then (rd x5_2 t657) else (rd x5_2 x41_2)) = ji46 := hji46
                            obtain ⟨y663, hy663⟩ : ∃ y_ : List Int, y_ = (x5_3.set (x66_3 : Int).toNat (ji46)) := ⟨_, rfl⟩
                            replace H : (impl_CylindersOf.l2 k3 t647 y663 (rd x5_2 x41_2) (rd x5_2 t657) t647 (t647.length : Int) x41_2 (x5_2.length : Int) (wrap64 (x66_3 + 1)) l0_0 l0_1) = some (r1, r2) := by first | (rw [hy663]; exact H) | exact H
                            have Ny663 := Aside0.mk hy663
                            clear hy663
                            have H' := Aside0.mk H
                            clear H
                            have p660 : 0 ≤ (x66_3 : Int) := of_decide_eq_true qe_
                            have q660 : x66_3 < (x5_3.length : Int) := of_decide_eq_true qe_
                            obtain ⟨ad660, e660, hx660_0⟩ := Kd.at_int (Kd.R_reads' HO_5.out).2.2 x66_3 p660 q660
                            obtain rfl : ad658 = ad660 := (by injection e660)
                            replace p660 := eq_true p660
                            replace q660 := eq_true q660
                            have p662 : 0 ≤ (x66_3 : Int) := of_decide_eq_true qe_
                            have q662 : x66_3 < (x5_3.length : Int) := of_decide_eq_true qe_
                            obtain ⟨ad662, e662, hx662_0⟩ := Kd.at_int (Kd.R_reads' HO_5.out).2.2 x66_3 p662 q662
                            obtain rfl : ad658 = ad662 := (by injection e662)
                            replace p662 := eq_true p662
                            replace q662 := eq_true q662
                            have p47 : 0 ≤ (x66_3 : Int) := of_decide_eq_true qe_
                            have q47 : (x66_3 : Int) < ((x5_3.length : Int) : Int) := of_decide_eq_true qe_
                            obtain ⟨go47, co47, eo47, gb47, gl47, cl47, HG47⟩ := Kd.R_form HO_5.out (by omega)
                            (first | cases eo47 | (injection eo47 with ea_ en_ ec_; (first | subst ea_ | (injection ea_ with ea_; subst ea_)); subst ec_; clear en_))
                            have GB47 := Aside0.mk gb47
                            have GG47 := Aside0.mk HG47
                            clear gb47 gl47 HG47
                            (first | simp only [add_plain] at hx660_0 | skip)
                            (first | simp only [add_plain] at hx662_0 | skip)
                            obtain ⟨hx47_0, hf47_0⟩ := Kd.R_celln 0 HO_5.out (x66_3 : Int) p47 q47
                            replace p47 := eq_true p47
                            replace q47 := eq_true q47
                            have HP48 := Kd.R_putg HO_5.out (x66_3 : Int) ji46
                            go_wp2_with (first | ((with_reducible refine gate_store (t := 3) (p := 88) rfl ?_); refine store_event (t := 3) (p := 88) (v := ?vo_w49) (w1 := (wr.setCell ⟨go47, (x66_3 : Int).toNat, none⟩ (.int .i64 ji46))) ?hg ?ho ?hn ?hr ?_; (case ho => rfl); (case hg => rfl); (case hn => rfl); (case hr => first | (go_simp; done) | (go_simp; rfl)); intro w49 hw; have hg : wr.grownBy w49 (some go47) := (by rw [hw]; exact HP48.2); have hp_ : Kd.R (Kd.int .i64) 3 w49 w.heap.size (fun _ => True) (.slice (some ⟨go47, 0, none⟩) x5_3.length co15) y663 := (by rw [hw, Ny663.out]; exact HP48.1); clear HP48; replace HO_4 := Aside0.mk (Kd.S_after (v := (.slice (some ⟨go47, 0, none⟩) x5_3.length co15)) (v1 := (.slice (some ⟨go47, 0, none⟩) x5_3.length co15)) (ok := (fun _ => True)) (sw_ (Kd.S_mono HO_4.out (fun _ hk => ⟨trivial, hk⟩))) hg (.inl rfl)); replace HO_39 := Aside0.mk (Kd.S_after (v := (.slice (some ⟨go47, 0, none⟩) x5_3.length co15)) (v1 := (.slice (some ⟨go47, 0, none⟩) x5_3.length co15)) (ok := (fun _ => True)) (sw_ (Kd.S_mono HO_39.out (fun _ hk => ⟨trivial, hk⟩))) hg (.inl rfl)); replace BK645 := Aside0.mk (blk_grown (kk_ BK645) hg (Kd.R_ne HO_5.out BK645.out (by decide))); replace HO_5 := Aside0.mk (hp_); replace HB := Aside0.mk ((by rw [hw]; exact below_set (HB.out) GB47.out : Below w.heap.size w w49)); clear hg hw hp_))
                            (try simp only [← hl5_3])
                            go_roundg k3
                            case measure => have := HK1.out; have := HK2.out; have := HK3.out; omega
                            case rel => exact ⟨(y663), (wrap64 (x66_3 + 1)), qc_, H', ⟨by have := HK1.out; have := HK2.out; have := HK3.out; omega⟩, ⟨by (try simp only [hl5_1]); (try simp only [hl5_2]); (try simp only [hl5_3]); (with_reducible repeat (first | apply Kd.S_alloc | apply Kd.S_drewN | apply Kd.S_drew)); exact Kd.S_mono HO_4.out (fun _ hk => hk.2)⟩, ⟨by (try simp only [hl5_1]); (try simp only [hl5_2]); (try simp only [hl5_3]); (with_reducible repeat (first | apply Kd.R_alloc | apply Kd.R_drewN | apply Kd.R_drew)); exact HO_5.out⟩, ⟨by (try simp only [hl5_1]); (try simp only [hl5_2]); (try simp only [hl5_3]); (with_reducible repeat (first | apply Kd.S_alloc | apply Kd.S_drewN | apply Kd.S_drew)); exact Kd.S_mono HO_39.out (fun _ hk => hk.2)⟩, ⟨by (try simp only [hl5_1]); (try simp only [hl5_2]); (try simp only [hl5_3]); (with_reducible repeat (first | refine blk_drewN ?_ _ | refine blk_drew ?_ | refine blk_alloc ?_ _)); exact BK645.out⟩, ⟨hB_⟩⟩
                          · rw [if_neg c45] at H
                            have c45b0 : ((rd x5_3 x66_3) == (rd x5_2 t657)) = false := beq_eq_false_iff_ne.mpr c45
                            have c45b1 : ((rd x5_3 x66_3) != (rd x5_2 t657)) = true := bne_iff_ne.mpr c45
                            have H' := Aside0.mk H
                            clear H
                            have p660 : 0 ≤ (x66_3 : Int) := of_decide_eq_true qe_
                            have q660 : x66_3 < (x5_3.length : Int) := of_decide_eq_true qe_
                            obtain ⟨ad660, e660, hx660_0⟩ := Kd.at_int (Kd.R_reads' HO_5.out).2.2 x66_3 p660 q660
                            obtain rfl : ad658 = ad660 := (by injection e660)
                            replace p660 := eq_true p660
                            replace q660 := eq_true q660
                            have p662 : 0 ≤ (x66_3 : Int) := of_decide_eq_true qe_
                            have q662 : x66_3 < (x5_3.length : Int) := of_decide_eq_true qe_
                            obtain ⟨ad662, e662, hx662_0⟩ := Kd.at_int (Kd.R_reads' HO_5.out).2.2 x66_3 p662 q662
                            obtain rfl : ad658 = ad662 := (by injection e662)
                            replace p662 := eq_true p662
                            replace q662 := eq_true q662
                            go_wp2
                            (try simp only [← hl5_3])
                            go_roundg k3
                            case measure => have := HK1.out; have := HK2.out; have := HK3.out; omega
                            case rel => exact ⟨(x5_3), (wrap64 (x66_3 + 1)), qc_, H', ⟨by have := HK1.out; have := HK2.out; have := HK3.out; omega⟩, ⟨by (try simp only [hl5_1]); (try simp only [hl5_2]); (try simp only [hl5_3]); (with_reducible repeat (first | apply Kd.S_alloc | apply Kd.S_drewN | apply Kd.S_drew)); exact HO_4.out⟩, ⟨by (try simp only [hl5_1]); (try simp only [hl5_2]); (try simp only [hl5_3]); (with_reducible repeat (first | apply Kd.R_alloc | apply Kd.R_drewN | apply Kd.R_drew)); exact HO_5.out⟩, ⟨by (try simp only [hl5_1]); (try simp only [hl5_2]); (try simp only [hl5_3]); (with_reducible repeat (first | apply Kd.S_alloc | apply Kd.S_drewN | apply Kd.S_drew)); exact HO_39.out⟩, ⟨by (try simp only [hl5_1]); (try simp only [hl5_2]); (try simp only [hl5_3]); (with_reducible repeat (first | refine blk_drewN ?_ _ | refine blk_drew ?_ | refine blk_alloc ?_ _)); exact BK645.out⟩, ⟨hB_⟩⟩
                      · rw [if_neg c37] at H
                        have c37b0 := decide_eq_false c37
                        (try simp only [hl5_3] at c37b0)
                        clear c37
                        have H' := Aside0.mk H
                        clear H
                        go_wp2
                        (try simp only [← hl5_2, ← hl5_3])
                        go_roundg k3
                        case measure => have := HK1.out; have := HK2.out; have := HK3.out; omega
                        case rel => exact ⟨(x5_3), (wrap64 (x41_2 + 1)), qc_, H', ⟨by have := HK1.out; have := HK2.out; have := HK3.out; omega⟩, ⟨by (try simp only [hl5_1]); (try simp only [hl5_2]); (try simp only [hl5_3]); (with_reducible repeat (first | apply Kd.S_alloc | apply Kd.S_drewN | apply Kd.S_drew)); exact HO_4.out⟩, ⟨by (try simp only [hl5_1]); (try simp only [hl5_2]); (try simp only [hl5_3]); (with_reducible repeat (first | apply Kd.R_alloc | apply Kd.R_drewN | apply Kd.R_drew)); exact HO_5.out⟩, ⟨by (try simp only [hl5_1]); (try simp only [hl5_2]); (try simp only [hl5_3]); (with_reducible repeat (first | apply Kd.S_alloc | apply Kd.S_drewN | apply Kd.S_drew)); exact HO_39.out⟩, ⟨by (try simp only [hl5_1]); (try simp only [hl5_2]); (try simp only [hl5_3]); (with_reducible repeat (first | refine blk_drewN ?_ _ | refine blk_drew ?_ | refine blk_alloc ?_ _)); exact BK645.out⟩, ⟨hB_⟩⟩
              · rw [if_neg c22] at H
                have c22b0 := decide_eq_false c22
                clear c22
                obtain ⟨y664, hy664⟩ : ∃ y_ : List (S44), y_ = (([] : List (S44))) := ⟨_, rfl⟩
                replace H : (impl_CylindersOf.l3 k2 x5_2 y664 t647 (t647.length : Int) 0) = some (r1, r2) := by first | (rw [hy664]; exact H) | exact H
                have Ny664 := Aside0.mk hy664
                clear hy664
                have H' := Aside0.mk H
                clear H
                go_wp2_with (first | ((with_reducible refine gate_dst (N := 91) rfl ?_); refine Kd.R_lit k44 _ 44 ?hg (N := 91) ?hd (xs := ([] : List (S44))) (inner := []) (ok := fun _ => True) (okp := fun _ => True) ?hr ?hp (fun _ hk => hk) trivial (Below.refl _ _) (Nat.le_refl _) (by simp) ?_; (case hd => rfl); (case hg => rfl); (case hr => first | (go_simp; done) | (go_simp; rfl)); (case hp => exact (Reps.none _ _)); intro v665 w50 ho51 hb hg_ hnew_; clear hg_ hnew_; (first | rw [← Ny664.out] at ho51 | (simp only [Int.reduceToNat] at ho51; rw [← Ny664.out] at ho51)); replace HO_4 := sb_ HO_4 hb; replace HO_5 := rb_ HO_5 hb; replace HO_39 := sb_ HO_39 hb; have HO666 := rl_ w ho51; replace BK645 := bb_ BK645 hb; replace HB := b1_ hb; clear hb ho51))
                go_loopg [14, 94] k2 (fun kq v14 v94 w' => ∃ (x14_3 : List (S44)) (x94_3 : Int), v94 = .int .i64 x94_3 ∧ Aside0 (impl_CylindersOf.l3 kq x5_2 x14_3 t647 (t647.length : Int) x94_3 = some (r1, r2)) ∧ Aside0 (kq ≤ k2) ∧ Aside0 (Kd.R (Kd.int .i64) 3 w' w.heap.size (fun _ => True) (.slice Ao15 x5_2.length co15) x5_2) ∧ Aside0 (Kd.R k44 44 w' w.heap.size (fun _ => True) v14 x14_3) ∧ Aside0 (Kd.S (Kd.slice 3 (Kd.int .i64)) 22 w' w.heap.size (fun k_ => some k_ ≠ ((.slice Ao15 x5_2.length co15) : Value).ownBlock) (.slice Ao12 t647.length co12) t647) ∧ Aside0 (w'.heap[gb645]? = some (.cells #[(.slice A0_0 l0_0.length c0_0), (.slice A0_1 l0_1.length c0_1)] 27 (0, 0))) ∧ Aside0 (Below w.heap.size w w'))
                case atStart => exact ⟨(y664), (0), qc_, H', ⟨Nat.le_refl _⟩, ⟨by (try simp only [hl5_1]); (try simp only [hl5_2]); (with_reducible repeat (first | apply Kd.R_alloc | apply Kd.R_drewN | apply Kd.R_drew)); exact HO_5.out⟩, ⟨by (try simp only [hl5_1]); (try simp only [hl5_2]); (with_reducible repeat (first | apply Kd.R_alloc | apply Kd.R_drewN | apply Kd.R_drew)); exact HO666.out⟩, ⟨by (try simp only [hl5_1]); (try simp only [hl5_2]); (with_reducible repeat (first | apply Kd.S_alloc | apply Kd.S_drewN | apply Kd.S_drew)); exact HO_4.out⟩, ⟨by (try simp only [hl5_1]); (try simp only [hl5_2]); (with_reducible repeat (first | refine blk_drewN ?_ _ | refine blk_drew ?_ | refine blk_alloc ?_ _)); exact BK645.out⟩, ⟨hB_⟩⟩
                case round =>
                  clear H'
                  obtain ⟨x14_3, x94_3, rfl, HA, HK3, HO_5, HO_14, HO_92, BK645, HB⟩ := hrel
                  cases gk with
                  | zero => exact absurd HA.out (by simp [impl_CylindersOf.l3])
                  | succ k3 =>
                    have H := HA.out
                    clear HA
                    simp only [impl_CylindersOf.l3] at H
                    by_cases c52 : x94_3 < (t647.length : Int)
                    · rw [if_pos c52] at H
                      have c52b0 := decide_eq_true c52
                      clear c52
                      have c53 := cp_ H
                      replace H := ca_ H
                      have c53b0 := decide_eq_true c53
                      clear c53
                      have c54 := cp_ H
                      replace H := ca_ H
                      have c54b0 := decide_eq_true c54
                      clear c54
                      have c55 := cp_ H
                      replace H := ca_ H
                      have c55b0 := decide_eq_true c55
                      clear c55
                      by_cases c56 : (rd x5_2 x94_3) = x94_3
                      · rw [if_pos c56] at H
                        have c56b0 : ((rd x5_2 x94_3) == x94_3) = true := beq_iff_eq.mpr c56
                        have c56b1 : ((rd x5_2 x94_3) != x94_3) = false := bne_eq_false_iff_eq.mpr c56
                        clear c56
                        have H' := Aside0.mk H
                        clear H
                        have p667 : 0 ≤ (x94_3 : Int) := of_decide_eq_true qe_
                        have q667 : x94_3 < (t647.length : Int) := of_decide_eq_true qe_
                        obtain ⟨ad667, A667_0, c667_0, e667, hx667_0, hl667_0, hi667_0⟩ := at_L1 (Kd.S_reads' HO_92.out).2.2 x94_3 p667 q667
                        cases e667
                        obtain ⟨ce667, hce667, hMe667, hcc667⟩ := Kd.S_get HO_92.out [] x94_3 p667 (by first | exact q667 | exact of_decide_eq_true qe_ | (have e_ := (Kd.S_reads' HO_92.out).1; omega))
                        obtain ⟨ve667_0, rfl, ge667_0⟩ := hMe667
                        have hv667_0 := hcc667 0 _ rfl
                        rw [Nat.add_zero, show ((Kd.slice 3 (Kd.int .i64))).sz = 1 from rfl, Nat.mul_one] at hv667_0
                        replace hv667_0 := Option.some.inj (hv667_0.symm.trans hx667_0)
                        rw [hv667_0] at ge667_0
                        have HL667_0 := Aside0.mk (show Kd.R (Kd.int .i64) 3 _ _ _ _ (rd_L1 t647 x94_3) from ge667_0)
                        clear hv667_0 ge667_0
                        clear hcc667 hce667
                        have HR667_0 := Aside0.mk hi667_0
                        have HC667_0 := Aside0.mk hl667_0
                        clear hi667_0 hl667_0
                        replace p667 := eq_true p667
                        replace q667 := eq_true q667
                        have p668 : 0 ≤ (x94_3 : Int) := of_decide_eq_true qe_
                        have q668 : x94_3 < (x5_2.length : Int) := of_decide_eq_true qe_
                        obtain ⟨ad668, e668, hx668_0⟩ := Kd.at_int (Kd.R_reads' HO_5.out).2.2 x94_3 p668 q668
                        cases e668
                        replace p668 := eq_true p668
                        replace q668 := eq_true q668
                        go_wp2_with (first | ((with_reducible refine gate_dst (N := 17) rfl ?_); refine bx_ 17 #[.int .i64 0, .int .i64 0] 44 ?_; intro gb669 hg w57 hbox hb; replace HO_5 := rb_ HO_5 hb; replace HO_14 := Aside0.mk (Kd.R_below (Kd.R_elderB (rr_ HO_14) gb669 (Nat.le_of_eq hg.symm)) hb); replace HO_92 := sb_ HO_92 hb; replace HL667_0 := rb_ HL667_0 hb; have BK669 := Aside0.mk hbox; have GW669 := gw_ w hg; have GE669 := GW669; replace HB := b1_ hb; have NB645_669 := gN_ BK645 hg; have NB669_645 := gP_ BK645 hg; replace BK645 := bb_ BK645 hb; clear hb hbox hg; have hnb58 := NB669_645.out; have hnc58 := NB645_669.out; obtain ⟨hcz59_0, hcz59_1, hfz59_0, hfz59_1⟩ := c2_ BK669))
                        go_loopg [110] k3 (fun kq v110 w' => ∃ (x110_4 : Int) (x670001_4 : Int), v110 = .int .i64 x110_4 ∧ Aside0 (impl_CylindersOf.l4 kq x5_2 x14_3 x94_3 t647 (t647.length : Int) x94_3 x5_2 (x5_2.length : Int) x110_4 ((rd_L1 t647 x94_3).length : Int) x670001_4 = some (r1, r2)) ∧ Aside0 (kq ≤ k3) ∧ Aside0 (Kd.R (Kd.int .i64) 3 w' w.heap.size (fun _ => True) (.slice (some ad668) x5_2.length co15) x5_2) ∧ Aside0 (Kd.R k44 44 w' w.heap.size (fun k_ => k_ ≠ gb669) u14 x14_3) ∧ Aside0 (Kd.S (Kd.slice 3 (Kd.int .i64)) 22 w' w.heap.size (fun k_ => some k_ ≠ ((.slice (some ad668) x5_2.length co15) : Value).ownBlock ∧ some k_ ≠ ((.slice (some ad668) x5_2.length co15) : Value).ownBlock) (.slice (some ad667) t647.length co12) t647) ∧ Aside0 (Kd.R (Kd.int .i64) 3 w' w.heap.size (fun _ => True) (.slice (some ad668) x5_2.length co15) x5_2) ∧ Aside0 (w'.heap[gb645]? = some (.cells #[(.slice A0_0 l0_0.length c0_0), (.slice A0_1 l0_1.length c0_1)] 27 (0, 0))) ∧ Aside0 (w'.heap[gb669]? = some (.cells #[.int .i64 ((rd_L1 t647 x94_3).length : Int), .int .i64 x670001_4] 44 (0, 0))) ∧ Aside0 (Below w.heap.size w w'))
                        case atStart => exact ⟨(0), (0), qc_, H', ⟨Nat.le_refl _⟩, ⟨by (try simp only [hl5_1]); (try simp only [hl5_2]); (with_reducible repeat (first | apply Kd.R_alloc | apply Kd.R_drewN | apply Kd.R_drew)); exact Kd.R_mono (Kd.R_far (p := ⟨gb669, 1, none⟩) (Kd.R_far (p := ⟨gb669, 0, none⟩) (Kd.R_types HO_5.out BK669.out (by decide)) (fun _ hk => hk.2) (.int .i64 ((rd_L1 t647 x94_3).length : Int))) (fun _ hk => hk.2) (.int .i64 0)) (fun _ hk => trivial)⟩, ⟨by (try simp only [hl5_1]); (try simp only [hl5_2]); (with_reducible repeat (first | apply Kd.R_alloc | apply Kd.R_drewN | apply Kd.R_drew)); exact Kd.R_mono (Kd.R_far (p := ⟨gb669, 1, none⟩) (Kd.R_far (p := ⟨gb669, 0, none⟩) (Kd.R_mono HO_14.out (fun k_ hk => (⟨hk, hk.2⟩ : _ ∧ k_ ≠ gb669))) (fun _ hk => hk.2) (.int .i64 ((rd_L1 t647 x94_3).length : Int))) (fun _ hk => hk.2) (.int .i64 0)) (fun _ hk => hk.1.2)⟩, ⟨by (try simp only [hl5_1]); (try simp only [hl5_2]); (with_reducible repeat (first | apply Kd.S_alloc | apply Kd.S_drewN | apply Kd.S_drew)); exact Kd.S_mono (Kd.S_far (p := ⟨gb669, 1, none⟩) (Kd.S_far (p := ⟨gb669, 0, none⟩) (Kd.S_types HO_92.out BK669.out (by decide)) (fun _ hk => hk.2) (.int .i64 ((rd_L1 t647 x94_3).length : Int))) (fun _ hk => hk.2) (.int .i64 0)) (fun _ hk => ⟨hk.1, hk.1⟩)⟩, ⟨by (try simp only [hl5_1]); (try simp only [hl5_2]); (with_reducible repeat (first | apply Kd.R_alloc | apply Kd.R_drewN | apply Kd.R_drew)); exact Kd.R_mono (Kd.R_far (p := ⟨gb669, 1, none⟩) (Kd.R_far (p := ⟨gb669, 0, none⟩) (Kd.R_types HO_5.out BK669.out (by decide)) (fun _ hk => hk.2) (.int .i64 ((rd_L1 t647 x94_3).length : Int))) (fun _ hk => hk.2) (.int .i64 0)) (fun _ hk => trivial)⟩, ⟨by (try simp only [hl5_1]); (try simp only [hl5_2]); (with_reducible repeat (first | refine blk_drewN ?_ _ | refine blk_drew ?_ | refine blk_alloc ?_ _)); refine blk_far ?_ NB645_669.out _; (with_reducible repeat (first | refine blk_drewN ?_ _ | refine blk_drew ?_ | refine blk_alloc ?_ _)); refine blk_far ?_ NB645_669.out _; (with_reducible repeat (first | refine blk_drewN ?_ _ | refine blk_drew ?_ | refine blk_alloc ?_ _)); exact BK645.out⟩, ⟨by (try simp only [hl5_1]); (try simp only [hl5_2]); (with_reducible repeat (first | refine blk_drewN ?_ _ | refine blk_drew ?_ | refine blk_alloc ?_ _)); refine blk_put (cs := #[.int .i64 ((rd_L1 t647 x94_3).length : Int), .int .i64 0]) ?_ 1 _ rfl; (with_reducible repeat (first | refine blk_drewN ?_ _ | refine blk_drew ?_ | refine blk_alloc ?_ _)); refine blk_put (cs := #[.int .i64 0, .int .i64 0]) ?_ 0 _ rfl; (with_reducible repeat (first | refine blk_drewN ?_ _ | refine blk_drew ?_ | refine blk_alloc ?_ _)); exact BK669.out⟩, ⟨hB_⟩⟩
                        case round =>
                          clear H'
                          obtain ⟨x110_4, x670001_4, rfl, HA, HK4, HO_5, HO_14, HO_92, HO_108, BK645, BK669, HB⟩ := hrel
                          cases gk with
                          | zero => exact absurd HA.out (by simp [impl_CylindersOf.l4])
                          | succ k4 =>
                            have H := HA.out
                            clear HA
                            simp only [impl_CylindersOf.l4] at H
                            by_cases c60 : x110_4 < (x5_2.length : Int)
                            · rw [if_pos c60] at H
                              have c60b0 := decide_eq_true c60
                              clear c60
                              have c61 := cp_ H
                              replace H := ca_ H
                              have c61b0 := decide_eq_true c61
                              clear c61
                              have c62 := cp_ H
                              replace H := ca_ H
                              have c62b0 := decide_eq_true c62
                              clear c62
                              by_cases c63 : (rd x5_2 x110_4) = x94_3
                              · rw [if_pos c63] at H
                                have c63b0 : ((rd x5_2 x110_4) == x94_3) = true := beq_iff_eq.mpr c63
                                have c63b1 : ((rd x5_2 x110_4) != x94_3) = false := bne_eq_false_iff_eq.mpr c63
                                clear c63
                                have H' := Aside0.mk H
                                clear H
                                have p670 : 0 ≤ (x110_4 : Int) := of_decide_eq_true qe_
                                have q670 : x110_4 < (x5_2.length : Int) := of_decide_eq_true qe_
                                obtain ⟨ad670, e670, hx670_0⟩ := Kd.at_int (Kd.R_reads' HO_108.out).2.2 x110_4 p670 q670
                                obtain rfl : ad668 = ad670 := (by injection e670)
                                replace p670 := eq_true p670
                                replace q670 := eq_true q670
                                have hnb64 := NB669_645.out
                                have hnc64 := NB645_669.out
                                have hcz65_0 : wr.cell? ⟨gb669, 0, none⟩ = some (.int .i64 ((rd_L1 t647 x94_3).length : Int)) := cz0_ BK669
                                have hcz65_1 := cz1_ BK669
                                have hfz65_0 := blk_frozen BK669.out 0
                                have hfz65_1 := blk_frozen BK669.out 1
                                go_wp2
                                go_roundg k4
                                case measure => have := HK1.out; have := HK2.out; have := HK3.out; have := HK4.out; omega
                                case rel => exact ⟨(wrap64 (x110_4 + 1)), (wrap64 (x670001_4 + 1)), qc_, H', ⟨by have := HK1.out; have := HK2.out; have := HK3.out; have := HK4.out; omega⟩, ⟨by (try simp only [hl5_1]); (try simp only [hl5_2]); (with_reducible repeat (first | apply Kd.R_alloc | apply Kd.R_drewN | apply Kd.R_drew)); exact Kd.R_mono (Kd.R_far (p := ⟨gb669, 1, none⟩) (Kd.R_types HO_5.out BK669.out (by decide)) (fun _ hk => hk.2) (.int .i64 (wrap64 (x670001_4 + 1)))) (fun _ hk => trivial)⟩, ⟨by (try simp only [hl5_1]); (try simp only [hl5_2]); (with_reducible repeat (first | apply Kd.R_alloc | apply Kd.R_drewN | apply Kd.R_drew)); exact Kd.R_mono (Kd.R_far (p := ⟨gb669, 1, none⟩) (Kd.R_mono HO_14.out (fun k_ hk => (⟨hk, hk⟩ : _ ∧ k_ ≠ gb669))) (fun _ hk => hk.2) (.int .i64 (wrap64 (x670001_4 + 1)))) (fun _ hk => hk.1)⟩, ⟨by (try simp only [hl5_1]); (try simp only [hl5_2]); (with_reducible repeat (first | apply Kd.S_alloc | apply Kd.S_drewN | apply Kd.S_drew)); exact Kd.S_mono (Kd.S_far (p := ⟨gb669, 1, none⟩) (Kd.S_types HO_92.out BK669.out (by decide)) (fun _ hk => hk.2) (.int .i64 (wrap64 (x670001_4 + 1)))) (fun _ hk => ⟨hk.1.1, hk.1.2⟩)⟩, ⟨by (try simp only [hl5_1]); (try simp only [hl5_2]); (with_reducible repeat (first | apply Kd.R_alloc | apply Kd.R_drewN | apply Kd.R_drew)); exact Kd.R_mono (Kd.R_far (p := ⟨gb669, 1, none⟩) (Kd.R_types HO_108.out BK669.out (by decide)) (fun _ hk => hk.2) (.int .i64 (wrap64 (x670001_4 + 1)))) (fun _ hk => trivial)⟩, ⟨by (try simp only [hl5_1]); (try simp only [hl5_2]); (with_reducible repeat (first | refine blk_drewN ?_ _ | refine blk_drew ?_ | refine blk_alloc ?_ _)); refine blk_far ?_ NB645_669.out _; (with_reducible repeat (first | refine blk_drewN ?_ _ | refine blk_drew ?_ | refine blk_alloc ?_ _)); exact BK645.out⟩, ⟨by (try simp only [hl5_1]); (try simp only [hl5_2]); (with_reducible repeat (first | refine blk_drewN ?_ _ | refine blk_drew ?_ | refine blk_alloc ?_ _)); refine blk_put (cs := #[.int .i64 ((rd_L1 t647 x94_3).length : Int), .int .i64 x670001_4]) ?_ 1 _ rfl; (with_reducible repeat (first | refine blk_drewN ?_ _ | refine blk_drew ?_ | refine blk_alloc ?_ _)); exact BK669.out⟩, ⟨hB_⟩⟩
                              · rw [if_neg c63] at H
                                have c63b0 : ((rd x5_2 x110_4) == x94_3) = false := beq_eq_false_iff_ne.mpr c63
                                have c63b1 : ((rd x5_2 x110_4) != x94_3) = true := bne_iff_ne.mpr c63
                                have H' := Aside0.mk H
                                clear H
                                have p670 : 0 ≤ (x110_4 : Int) := of_decide_eq_true qe_
                                have q670 : x110_4 < (x5_2.length : Int) := of_decide_eq_true qe_
                                obtain ⟨ad670, e670, hx670_0⟩ := Kd.at_int (Kd.R_reads' HO_108.out).2.2 x110_4 p670 q670
                                obtain rfl : ad668 = ad670 := (by injection e670)
                                replace p670 := eq_true p670
                                replace q670 := eq_true q670
                                go_wp2
                                go_roundg k4
                                case measure => have := HK1.out; have := HK2.out; have := HK3.out; have := HK4.out; omega
                                case rel => exact ⟨(wrap64 (x110_4 + 1)), (x670001_4), qc_, H', ⟨by have := HK1.out; have := HK2.out; have := HK3.out; have := HK4.out; omega⟩, ⟨by (try simp only [hl5_1]); (try simp only [hl5_2]); (with_reducible repeat (first | apply Kd.R_alloc | apply Kd.R_drewN | apply Kd.R_drew)); exact HO_5.out⟩, ⟨by (try simp only [hl5_1]); (try simp only [hl5_2]); (with_reducible repeat (first | apply Kd.R_alloc | apply Kd.R_drewN | apply Kd.R_drew)); exact HO_14.out⟩, ⟨by (try simp only [hl5_1]); (try simp only [hl5_2]); (with_reducible repeat (first | apply Kd.S_alloc | apply Kd.S_drewN | apply Kd.S_drew)); exact HO_92.out⟩, ⟨by (try simp only [hl5_1]); (try simp only [hl5_2]); (with_reducible repeat (first | apply Kd.R_alloc | apply Kd.R_drewN | apply Kd.R_drew)); exact HO_108.out⟩, ⟨by (try simp only [hl5_1]); (try simp only [hl5_2]); (with_reducible repeat (first | refine blk_drewN ?_ _ | refine blk_drew ?_ | refine blk_alloc ?_ _)); exact BK645.out⟩, ⟨by (try simp only [hl5_1]); (try simp only [hl5_2]); (with_reducible repeat (first | refine blk_drewN ?_ _ | refine blk_drew ?_ | refine blk_alloc ?_ _)); exact BK669.out⟩, ⟨hB_⟩⟩
                            · rw [if_neg c60] at H
                              have c60b0 := decide_eq_false c60
                              clear c60
                              have c66 := cp_ H
                              replace H := ca_ H
                              have LMc66 := Aside0.mk c66
                              clear c66
                              obtain ⟨y671, hy671⟩ : ∃ y_ : List (S44), y_ = (x14_3 ++ [(⟨((rd_L1 t647 x94_3).length : Int), x670001_4⟩ : S44)]) := ⟨_, rfl⟩
                              replace H : (impl_CylindersOf.l3 k4 x5_2 y671 t647 (t647.length : Int) (wrap64 (x94_3 + 1))) = some (r1, r2) := by first | (rw [hy671]; exact H) | exact H
                              have Ny671 := Aside0.mk hy671
                              clear hy671
                              have H' := Aside0.mk H
                              clear H
                              have hnb67 := NB669_645.out
                              have hnc67 := NB645_669.out
                              have hcz68_0 : wr.cell? ⟨gb669, 0, none⟩ = some (.int .i64 ((rd_L1 t647 x94_3).length : Int)) := cz0_ BK669
                              have hcz68_1 := cz1_ BK669
                              have hfz68_0 := blk_frozen BK669.out 0
                              have hfz68_1 := blk_frozen BK669.out 1
                              go_wp2_with (first | ((with_reducible refine gate_builtin (b := .append) (xs := #[.tmp 122, .tmp 124]) rfl ?_); at_builtin; refine Kd.R_append k44 (w0 := w) w.heap.size rfl (.tmp 122) (.tmp 124) 31 44 (.agg #[(.int .i64 0), (.int .i64 0)]) 16 rfl Try.underlying31 info44 rfl (by decide) (by omega) u14 x14_3 (⟨((rd_L1 t647 x94_3).length : Int), x670001_4⟩ : S44) [.int .i64 ((rd_L1 t647 x94_3).length : Int), .int .i64 x670001_4] (fun k_ => k_ ≠ gb669) (fun _ => False) rfl rfl ?aP (fun _ hk => hk.elim) ?aF ?aO ?aB ?aS ?aL ?_; (case aP => exact k44_mkM _ _ _ (⟨((rd_L1 t647 x94_3).length : Int), x670001_4⟩ : S44)); (case aB => exact hB_); (case aF => exact (fun k_ hk => Kd.freshB (kk_ BK669) k_ hk)); (case aO => exact (rr_ HO_14)); (case aS => exact (below_size hB_)); (case aL => have := LMc66.out; omega); intro v672 w69 ho hb hg hat; rw [← Ny671.out] at ho; replace HO_5 := Aside0.mk (Kd.R_over' (rr_ HO_5) (Kd.R_typed (rr_ HO_14)) (by decide) hg); replace HO_92 := Aside0.mk (Kd.S_over' (ss_ HO_92) (Kd.R_typed (rr_ HO_14)) (by decide) hg); replace HO_108 := Aside0.mk (Kd.R_over' (rr_ HO_108) (Kd.R_typed (rr_ HO_14)) (by decide) hg); replace BK645 := Aside0.mk (blk_grown (kk_ BK645) hg (Kd.R_ne HO_14.out BK645.out (by decide))); replace BK669 := Aside0.mk (blk_grown (kk_ BK669) hg (Kd.R_away HO_14.out (fun _ hk => hk))); replace HB := Aside0.mk hb; have HO673 := Aside0.mk ho; clear HO_14; clear ho hb hg hat))
                              go_roundg k4
                              case measure => have := HK1.out; have := HK2.out; have := HK3.out; have := HK4.out; omega
                              case rel => exact ⟨(y671), (wrap64 (x94_3 + 1)), qc_, H', ⟨by have := HK1.out; have := HK2.out; have := HK3.out; have := HK4.out; omega⟩, ⟨by (try simp only [hl5_1]); (try simp only [hl5_2]); (with_reducible repeat (first | apply Kd.R_alloc | apply Kd.R_drewN | apply Kd.R_drew)); exact HO_5.out⟩, ⟨by (try simp only [hl5_1]); (try simp only [hl5_2]); (with_reducible repeat (first | apply Kd.R_alloc | apply Kd.R_drewN | apply Kd.R_drew)); exact Kd.R_mono HO673.out (fun _ hk => trivial)⟩, ⟨by (try simp only [hl5_1]); (try simp only [hl5_2]); (with_reducible repeat (first | apply Kd.S_alloc | apply Kd.S_drewN | apply Kd.S_drew)); exact Kd.S_mono HO_92.out (fun _ hk => hk.1)⟩, ⟨by (try simp only [hl5_1]); (try simp only [hl5_2]); (with_reducible repeat (first | refine blk_drewN ?_ _ | refine blk_drew ?_ | refine blk_alloc ?_ _)); exact BK645.out⟩, ⟨hB_⟩⟩
                      · rw [if_neg c56] at H
                        have c56b0 : ((rd x5_2 x94_3) == x94_3) = false := beq_eq_false_iff_ne.mpr c56
                        have c56b1 : ((rd x5_2 x94_3) != x94_3) = true := bne_iff_ne.mpr c56
                        have H' := Aside0.mk H
                        clear H
                        have p667 : 0 ≤ (x94_3 : Int) := of_decide_eq_true qe_
                        have q667 : x94_3 < (t647.length : Int) := of_decide_eq_true qe_
                        obtain ⟨ad667, A667_0, c667_0, e667, hx667_0, hl667_0, hi667_0⟩ := at_L1 (Kd.S_reads' HO_92.out).2.2 x94_3 p667 q667
                        cases e667
                        obtain ⟨ce667, hce667, hMe667, hcc667⟩ := Kd.S_get HO_92.out [] x94_3 p667 (by first | exact q667 | exact of_decide_eq_true qe_ | (have e_ := (Kd.S_reads' HO_92.out).1; omega))
                        obtain ⟨ve667_0, rfl, ge667_0⟩ := hMe667
                        have hv667_0 := hcc667 0 _ rfl
                        rw [Nat.add_zero, show ((Kd.slice 3 (Kd.int .i64))).sz = 1 from rfl, Nat.mul_one] at hv667_0
                        replace hv667_0 := Option.some.inj (hv667_0.symm.trans hx667_0)
                        rw [hv667_0] at ge667_0
                        have HL667_0 := Aside0.mk (show Kd.R (Kd.int .i64) 3 _ _ _ _ (rd_L1 t647 x94_3) from ge667_0)
                        clear hv667_0 ge667_0
                        clear hcc667 hce667
                        have HR667_0 := Aside0.mk hi667_0
                        have HC667_0 := Aside0.mk hl667_0
                        clear hi667_0 hl667_0
                        replace p667 := eq_true p667
                        replace q667 := eq_true q667
                        have p668 : 0 ≤ (x94_3 : Int) := of_decide_eq_true qe_
                        have q668 : x94_3 < (x5_2.length : Int) := of_decide_eq_true qe_
                        obtain ⟨ad668, e668, hx668_0⟩ := Kd.at_int (Kd.R_reads' HO_5.out).2.2 x94_3 p668 q668
                        cases e668
                        replace p668 := eq_true p668
                        replace q668 := eq_true q668
                        go_wp2
                        go_roundg k3
                        case measure => have := HK1.out; have := HK2.out; have := HK3.out; omega
                        case rel => exact ⟨(x14_3), (wrap64 (x94_3 + 1)), qc_, H', ⟨by have := HK1.out; have := HK2.out; have := HK3.out; omega⟩, ⟨by (try simp only [hl5_1]); (try simp only [hl5_2]); (with_reducible repeat (first | apply Kd.R_alloc | apply Kd.R_drewN | apply Kd.R_drew)); exact HO_5.out⟩, ⟨by (try simp only [hl5_1]); (try simp only [hl5_2]); (with_reducible repeat (first | apply Kd.R_alloc | apply Kd.R_drewN | apply Kd.R_drew)); exact HO_14.out⟩, ⟨by (try simp only [hl5_1]); (try simp only [hl5_2]); (with_reducible repeat (first | apply Kd.S_alloc | apply Kd.S_drewN | apply Kd.S_drew)); exact HO_92.out⟩, ⟨by (try simp only [hl5_1]); (try simp only [hl5_2]); (with_reducible repeat (first | refine blk_drewN ?_ _ | refine blk_drew ?_ | refine blk_alloc ?_ _)); exact BK645.out⟩, ⟨hB_⟩⟩
                    · rw [if_neg c52] at H
                      have c52b0 := decide_eq_false c52
                      clear c52
                      simp only [Option.some.injEq, Prod.mk.injEq] at H
                      obtain ⟨rfl, rfl⟩ := H
                      go_wp2
                      go_ret2
                      exact ⟨_, qb_, (rr_ HO_14), hB_⟩
  · replace c3 := Bool.eq_false_iff.mpr c3
    subst c3
    have H1 : (some (([] : List (S44)), false)) = some (r1, r2) := by rw [if_neg (show ¬ (false = true) by decide)] at H; exact H
    clear H
    have H := H1
    clear H1
    simp only [Option.some.injEq, Prod.mk.injEq] at H
    obtain ⟨rfl, rfl⟩ := H
    go_enter Try.func20, Try.ntmps20
    go_wp2_with (first | ((with_reducible refine gate_dst (N := 1) rfl ?_); refine bx_ 1 #[.slice A0_0 l0_0.length c0_0, .slice A0_1 l0_1.length c0_1] 27 ?_; intro gb645 hg w70 hbox hb; have BK645 := Aside0.mk hbox; have GW645 := gw_ w hg; have GE645 := GW645; replace HB := b1_ hb; clear hb hbox hg; obtain ⟨hcz71_0, hcz71_1, hfz71_0, hfz71_1⟩ := c2_ BK645) | ((with_reducible refine gate_callee (f := 65) rfl ?_); refine gL_ (some 21) Try.func65 #[.agg #[.slice A0_0 l0_0.length c0_0, .slice A0_1 l0_1.length c0_1]] rfl qa_ ?_; (with_reducible refine (impl_SurfaceOk.calls k _ _ l0_0 _ _ l0_1 false _ (cb_ HR0_0) HC0_0.out (cb_ HR0_1) HC0_1.out A2.out).mono ?_); rintro e w72 ⟨rfl, hb⟩; refine ⟨_, rfl, ?_⟩; replace BK645 := bb_ BK645 hb; replace HB := b1_ hb; clear hb))
    go_ret2
    exact ⟨_, qb_, by first | exact Kd.R_nil _ _ _ _ _ | exact Kd.N_nil _ _ _ _ _ | exact Kd.V_nil _ _ _ _ _ | exact Kd.Q_nil _ _ _ _ _ | exact Kd.S_nil _ _ _ _ _, hB_⟩
end Go.Proofs.Ytbdnellgioimbaa.A
end
section
namespace Go.Proofs.Ytbdnellgioimbaa.A
open Go.RowKit Go.Proofs.YtbdnellgioimbaaW.PrintWords Go.Proofs.YtbdnellgioimbaaW.PrintLast Go.Proofs.YtbdnellgioimbaaW.PrintMore
attribute [local go_sem] max2_int min2_int max_two min_two max_three min_three max_four min_four
set_option linter.unusedVariables false
set_option linter.unusedSimpArgs false
def impl_CylindersIn.j0 : Nat → Int → Int → Bool → List Int → List Int → Option ((List (S44)) × Bool)
  | 0, _, _, _, _, _ => none
  | k + 1, x1, x2, x18, x1441000, x1441001 => if x18 = true then (some (([] : List (S44)), false)) else ((impl_DirectionWord.f k x1 x2).bind fun t1443 => ((impl_RunWord.f k x1441000 x1441001 t1443).bind fun bt1444 => (if bt1444.2.2 = true then ((impl_CylindersOf.f k bt1444.1 bt1444.2.1).bind fun bt1452 => (some (bt1452.1, bt1452.2))) else (some (([] : List (S44)), false)))))
def impl_CylindersIn.f (k : Nat) (l0_0 : List Int) (l0_1 : List Int) (a1 : Int) (a2 : Int) : Option ((List (S44)) × Bool) := (impl_SurfaceOk.f k l0_0 l0_1).bind fun t1441 => (if t1441 = true then ((impl_SlopeOk.f k a1 a2).bind fun t1442 => (impl_CylindersIn.j0 k a1 a2 (!t1442) l0_0 l0_1)) else (impl_CylindersIn.j0 k a1 a2 true l0_0 l0_1))
theorem impl_CylindersIn.mono_l : ∀ k, (∀ y0 y1 y2 y3 y4, LeO (impl_CylindersIn.j0 k y0 y1 y2 y3 y4) (impl_CylindersIn.j0 (k + 1) y0 y1 y2 y3 y4))
  | 0 => fun _ _ _ _ _ r h => by simp [impl_CylindersIn.j0] at h
  | k + 1 => by
    have ih0 := impl_CylindersIn.mono_l k
    · intro y0 y1 y2 y3 y4
      unfold impl_CylindersIn.j0
      repeat' first|exact ih0 _ _ _ _ _|exact impl_CylindersOf.mono _ _ _|exact impl_DirectionWord.mono _ _ _|exact impl_RunWord.mono _ _ _ _|exact impl_SlopeOk.mono _ _ _|exact impl_SurfaceOk.mono _ _ _|exact lo_|refine LeO.ite ?_ ?_|refine LeO.bind ?_ (fun _ => ?_)
theorem impl_CylindersIn.mono : ∀ a0 a1 a2 a3 k, LeO (impl_CylindersIn.f k a0 a1 a2 a3) (impl_CylindersIn.f (k + 1) a0 a1 a2 a3) := by
  intro a0 a1 a2 a3 k
  have ih0 := impl_CylindersIn.mono_l k
  unfold impl_CylindersIn.f
  repeat' first|exact ih0 _ _ _ _ _|exact impl_CylindersOf.mono _ _ _|exact impl_DirectionWord.mono _ _ _|exact impl_RunWord.mono _ _ _ _|exact impl_SlopeOk.mono _ _ _|exact impl_SurfaceOk.mono _ _ _|exact lo_|refine LeO.ite ?_ ?_|refine LeO.bind ?_ (fun _ => ?_)
def impl_CylindersIn.T3 : Bool × List (List Nat × List Nat) := (true, [([], []), ([], []), ([], []), ([1, 2], [1, 2]), ([0, 3, 3], [0, 3]), ([4], [4]), ([5], [5]), ([5], [5]), ([], []), ([8, 6, 4, 0, 1, 2, 3, 4, 5, 6, 8], [6, 8]), ([7, 9, 0, 1, 2, 3, 4, 5, 6, 7, 8, 9], [7])])
def impl_CylindersIn.B3 : List Nat := [0, 0, 0, 6, 15, 31, 63, 63, 0, 383, 1023]
theorem impl_CylindersIn.tab3 : rtab .any (opsOf Try.f46 3) = impl_CylindersIn.T3 := by kernel_rfl
theorem impl_CylindersIn.bits3 : waitsOk impl_CylindersIn.T3.2 impl_CylindersIn.B3 = true := by kernel_rfl
set_option maxHeartbeats 8000000 in
set_option maxRecDepth 100000 in
theorem impl_CylindersIn.calls (k : Nat) (A0_0 : Option Addr) (c0_0 : Nat) (l0_0 : List Int) (A0_1 : Option Addr) (c0_1 : Nat) (l0_1 : List Int) (a1 : Int) (a2 : Int) (r1 : List (S44)) (r2 : Bool) (w : World) (hr0_0 : Kd.C (Kd.int .i64) w A0_0 l0_0.length l0_0) (hc0_0 : l0_0.length ≤ c0_0) (hr0_1 : Kd.C (Kd.int .i64) w A0_1 l0_1.length l0_1) (hc0_1 : l0_1.length ≤ c0_1) (h : impl_CylindersIn.f k l0_0 l0_1 a1 a2 = some (r1, r2)) :
    Calls Try.prog 46 #[.agg #[.slice A0_0 l0_0.length c0_0, .slice A0_1 l0_1.length c0_1], .int .i64 a1, .int .i64 a2] w fun e w' => ∃ v0_ : Value, e = .returned (.tuple #[v0_, .bool r2]) ∧ Kd.R k44 44 w' w.heap.size (fun _ => True) v0_ r1 ∧ Below w.heap.size w w' := by
  have hu27 := Try.underlying27
  have HR0_0 := Aside0.mk hr0_0
  have HC0_0 := Aside0.mk hc0_0
  clear hr0_0 hc0_0
  have HR0_1 := Aside0.mk hr0_1
  have HC0_1 := Aside0.mk hc0_1
  clear hr0_1 hc0_1
  have HB := Aside0.mk (Below.refl w.heap.size w)
  have H := h
  unfold impl_CylindersIn.f at H
  clear h
  have HC4 := Aside0.mk H
  clear H
  go_enter Try.func46, Try.ntmps46
  go_upto_region 1 with (first | ((with_reducible refine gate_dst (N := 3) rfl ?_); refine bx_ 3 #[.slice A0_0 l0_0.length c0_0, .slice A0_1 l0_1.length c0_1] 27 ?_; intro gb1440 hg w5 hbox hb; have BK1440 := Aside0.mk hbox; have GW1440 := gw_ w hg; have GE1440 := GW1440; replace HB := b1_ hb; clear hb hbox hg))
  (try simp only [Act.put, List.setIfInBounds_toArray, List.set_cons_zero, List.set_cons_succ])
  go_cut [18] (fun v18 wc => ∃ (kq : Nat) (x18_3 : Bool), v18 = .bool x18_3 ∧ Aside0 (impl_CylindersIn.j0 kq a1 a2 x18_3 l0_0 l0_1 = some (r1, r2)) ∧ Aside0 (kq ≤ k) ∧ Aside0 (wc.heap[gb1440]? = some (.cells #[(.slice A0_0 l0_0.length c0_0), (.slice A0_1 l0_1.length c0_1)] 27 (0, 0))) ∧ Aside0 (Below w.heap.size w wc))
  case first =>
    have H := HC4.out
    clear HC4
    obtain ⟨t1441, A6, H⟩ := bi_ H
    by_cases c7 : t1441 = true
    · subst c7
      rw [if_pos rfl] at H
      obtain ⟨t1442, A8, H⟩ := bi_ H
      have H' := Aside0.mk H
      clear H
      obtain ⟨hcz9_0, hcz9_1, hfz9_0, hfz9_1⟩ := c2_ BK1440
      go_wp2_with (first | ((with_reducible refine gate_callee (f := 65) rfl ?_); refine gL_ (some 11) Try.func65 #[.agg #[.slice A0_0 l0_0.length c0_0, .slice A0_1 l0_1.length c0_1]] rfl qa_ ?_; (with_reducible refine (impl_SurfaceOk.calls k _ _ l0_0 _ _ l0_1 true _ (cb_ HR0_0) HC0_0.out (cb_ HR0_1) HC0_1.out A6.out).mono ?_); rintro e w10 ⟨rfl, hb⟩; refine ⟨_, rfl, ?_⟩; replace BK1440 := bb_ BK1440 hb; replace HB := b1_ hb; clear hb) | (go_at_call 53; (with_reducible refine (impl_SlopeOk.calls k a1 a2 t1442 _ A8.out).mono ?_); rintro e w' ⟨rfl, ⟨nd, rfl⟩⟩))
      go_meet
      case rel => exact ⟨_, (!t1442), qc_, H', ⟨qd_⟩, ⟨(kk_ BK1440)⟩, ⟨hB_⟩⟩
    · replace c7 := Bool.eq_false_iff.mpr c7
      subst c7
      have H1 : (impl_CylindersIn.j0 k a1 a2 true l0_0 l0_1) = some (r1, r2) := by rw [if_neg (show ¬ (false = true) by decide)] at H; exact H
      clear H
      have H := H1
      clear H1
      have H' := Aside0.mk H
      clear H
      obtain ⟨hcz11_0, hcz11_1, hfz11_0, hfz11_1⟩ := c2_ BK1440
      go_wp2_with (first | ((with_reducible refine gate_callee (f := 65) rfl ?_); refine gL_ (some 11) Try.func65 #[.agg #[.slice A0_0 l0_0.length c0_0, .slice A0_1 l0_1.length c0_1]] rfl qa_ ?_; (with_reducible refine (impl_SurfaceOk.calls k _ _ l0_0 _ _ l0_1 false _ (cb_ HR0_0) HC0_0.out (cb_ HR0_1) HC0_1.out A6.out).mono ?_); rintro e w12 ⟨rfl, hb⟩; refine ⟨_, rfl, ?_⟩; replace BK1440 := bb_ BK1440 hb; replace HB := b1_ hb; clear hb))
      go_meet
      case rel => exact ⟨_, (true), qc_, H', ⟨qd_⟩, ⟨(kk_ BK1440)⟩, ⟨hB_⟩⟩
  case rest =>
    clear HC4
    obtain ⟨kq, x18_3, rfl, HA, HJ3, BK1440, HB⟩ := hcut
    cases kq with
    | zero => exact absurd HA.out (by simp [impl_CylindersIn.j0])
    | succ kj3 =>
      have H := HA.out
      clear HA
      simp only [impl_CylindersIn.j0] at H
      by_cases c13 : x18_3 = true
      · subst c13
        rw [if_pos rfl] at H
        simp only [Option.some.injEq, Prod.mk.injEq] at H
        obtain ⟨rfl, rfl⟩ := H
        go_wp2
        go_ret2
        exact ⟨_, qb_, by first | exact Kd.R_nil _ _ _ _ _ | exact Kd.N_nil _ _ _ _ _ | exact Kd.V_nil _ _ _ _ _ | exact Kd.Q_nil _ _ _ _ _ | exact Kd.S_nil _ _ _ _ _, hB_⟩
      · replace c13 := Bool.eq_false_iff.mpr c13
        subst c13
        have H1 : ((impl_DirectionWord.f kj3 a1 a2).bind fun t1443 => ((impl_RunWord.f kj3 l0_0 l0_1 t1443).bind fun bt1444 => (if bt1444.2.2 = true then ((impl_CylindersOf.f kj3 bt1444.1 bt1444.2.1).bind fun bt1452 => (some (bt1452.1, bt1452.2))) else (some (([] : List (S44)), false))))) = some (r1, r2) := by rw [if_neg (show ¬ (false = true) by decide)] at H; exact H
        clear H
        have H := H1
        clear H1
        obtain ⟨t1443, A14, H⟩ := bi_ H
        obtain ⟨⟨t1444, t1447, t1450⟩, A15, H⟩ := bi_ H
        try dsimp only at H
        by_cases c16 : t1450 = true
        · subst c16
          rw [if_pos rfl] at H
          obtain ⟨⟨t1452, t1455⟩, A17, H⟩ := bi_ H
          try dsimp only at H
          simp only [Option.some.injEq, Prod.mk.injEq] at H
          obtain ⟨rfl, rfl⟩ := H
          try go_wp2
          replace BK1440 := Aside0.mk (blk_drew BK1440.out)
          replace HB := Aside0.mk (below_drew1 HB.out)
          refine start_ (n := 11) (S := fun w' => w'.cell? ⟨gb1440, 0, none⟩ = some (.slice A0_0 l0_0.length c0_0) ∧ w'.cell? ⟨gb1440, 1, none⟩ = some (.slice A0_1 l0_1.length c0_1)) (ds := []) (bl_ 11 0) (by kernel_rfl) rfl (by kernel_rfl) ⟨cz0_ BK1440, cz1_ BK1440⟩ (fun hHeld => ?_); refine with_tabW impl_CylindersIn.tab3 impl_CylindersIn.bits3 (fun HT_ HW_ => ?_)
          generalize wc.drew = w18 at BK1440 HB hHeld ⊢
          refine pu_ 1 (some 21) (bl_ 11 2) HT_ ?_
          refine pu_ 2 (some 22) (bl_ 11 6) HT_ ?_
          refine ta_ 0 (some 20) (bl_ 11 7) HT_ HW_ hHeld ?_
          refine join_ (σ := Value × Value × Nat) 2 (bl_ 11 511) (fun s_ => [(23, .string t1443), (24, .tuple #[.agg #[s_.1, s_.2.1], .bool true]), (8, .pointer (some ⟨s_.2.2, 0, none⟩)), (19, .tuple #[.agg #[s_.1, s_.2.1], .bool true]), (25, .agg #[s_.1, s_.2.1]), (26, .bool true)]) (fun s_ w' => (w'.cell? ⟨gb1440, 0, none⟩ = some (.slice A0_0 l0_0.length c0_0) ∧ w'.cell? ⟨gb1440, 1, none⟩ = some (.slice A0_1 l0_1.length c0_1)) ∧ (Kd.R (Kd.int .i64) 3 w' w.heap.size (fun k_ => some k_ ≠ (s_.2.1 : Value).ownBlock) s_.1 t1444) ∧ (Kd.R (Kd.int .i64) 3 w' w.heap.size (fun k_ => some k_ ≠ (s_.1 : Value).ownBlock) s_.2.1 t1447) ∧ (w'.heap[gb1440]? = some (.cells #[.slice A0_0 l0_0.length c0_0, .slice A0_1 l0_1.length c0_1] 27 (0, 0))) ∧ (w'.heap[s_.2.2]? = some (.cells #[.slice none 0 0, .slice none 0 0] 27 (0, 0))) ∧ (w.heap.size ≤ s_.2.2) ∧ (w.heap.size ≤ s_.2.2) ∧ (gb1440 ≠ s_.2.2) ∧ (s_.2.2 ≠ gb1440) ∧ (Below w.heap.size w w')) ?_ ?_
          rotate_left
          · intro hCont
            refine two_ (i := 3) (j := 8) (Ni := some 23) (Nj := some 8) (bl_ 11 15) (bl_ 11 263) rfl rfl rfl rfl (two_of HT_.out (by kernel_rfl)) (by decide) (by decide) (fun K hK => ?_) (fun K hK => ?_)
            · skip
              refine gO_ Try.func49 #[.int .i64 a1, .int .i64 a2] (by rfl) rfl rfl qa_ ?_
              with_reducible refine (impl_DirectionWord.calls kj3 a1 a2 t1443 _ A14.out).mono ?_
              rintro e w' ⟨rfl, ⟨nd, rfl⟩⟩
              refine ⟨_, rfl, ?_⟩
              refine hK.out _ _ ⟨cz0_ BK1440, cz1_ BK1440⟩ (fun hHeld => ?_)
              clear hK K
              refine no_ (some 23) ?_
              refine two_ (i := 4) (j := 8) (Ni := some 24) (Nj := some 8) (bl_ 11 31) (bl_ 11 271) rfl rfl rfl rfl (two_of HT_.out (by kernel_rfl)) (by decide) (by decide) (fun K hK => ?_) (fun K hK => ?_)
              · skip
                refine gO_ Try.func51 #[.agg #[.slice A0_0 l0_0.length c0_0, .slice A0_1 l0_1.length c0_1], .string t1443] (by rfl) rfl rfl qa_ ?_
                with_reducible refine (impl_RunWord.calls kj3 _ _ l0_0 _ _ l0_1 t1443 t1444 t1447 true _ (cw_ (Kd.C_below HR0_0.out hB_)) HC0_0.out (cw_ (Kd.C_below HR0_1.out hB_)) HC0_1.out A15.out).mono ?_
                rintro e w19 ⟨v1445, v1448, rfl, ho0, ho1, hb⟩
                refine ⟨_, rfl, ?_⟩
                have HO1446 := rl_ w ho0
                have HO1449 := rl_ w ho1
                replace BK1440 := bb_ BK1440 hb
                replace HB := b1_ hb
                clear hb ho0 ho1
                refine hK.out _ _ ⟨cz0_ BK1440, cz1_ BK1440⟩ (fun hHeld => ?_)
                clear hK K
                refine no_ (some 24) ?_
                refine pu_ 5 (some 19) (bl_ 11 63) HT_ ?_
                refine pu_ 6 (some 25) (bl_ 11 127) HT_ ?_
                refine pu_ 7 (some 26) (bl_ 11 255) HT_ ?_
                refine on_ 8 (some 8) (bl_ 11 511) HT_ (fun K hK => ?_)
                refine box_step ?hg (N := 8) ?hd (cs := #[.slice none 0 0, .slice none 0 0]) (t := 27) ?hr ?_; (case hd => rfl); (case hg => rfl); (case hr => first | (go_simp; done) | (go_simp; rfl))
                intro gb1451 hg w20 hbox hb
                replace HO1446 := rb_ HO1446 hb
                replace HO1449 := rb_ HO1449 hb
                have BK1451 := Aside0.mk hbox
                have GW1451 := gw_ w hg
                have GE1451 := GW1451
                replace HB := b1_ hb
                have NB1440_1451 := gN_ BK1440 hg
                have NB1451_1440 := gP_ BK1440 hg
                replace BK1440 := bb_ BK1440 hb
                clear hb hbox hg
                refine hK.out _ _ ⟨cz0_ BK1440, cz1_ BK1440⟩ (fun hHeld => ?_)
                clear hK K
                refine no_ (some 8) ?_
                exact norm_ (by simp only [putAll, Act.put, List.setIfInBounds_toArray, List.set_cons_zero, List.set_cons_succ]) (hCont (v1445, v1448, gb1451) _ ⟨hHeld, (rr_ HO1446), (rr_ HO1449), (kk_ BK1440), (kk_ BK1451), GW1451.out, GE1451.out, NB1440_1451.out, NB1451_1440.out, hB_⟩)
              · skip
                refine box_step ?hg (N := 8) ?hd (cs := #[.slice none 0 0, .slice none 0 0]) (t := 27) ?hr ?_; (case hd => rfl); (case hg => rfl); (case hr => first | (go_simp; done) | (go_simp; rfl))
                intro gb1451 hg w19 hbox hb
                have BK1451 := Aside0.mk hbox
                have GW1451 := gw_ w hg
                have GE1451 := GW1451
                replace HB := b1_ hb
                have NB1440_1451 := gN_ BK1440 hg
                have NB1451_1440 := gP_ BK1440 hg
                replace BK1440 := bb_ BK1440 hb
                clear hb hbox hg
                refine hK.out _ _ ⟨cz0_ BK1440, cz1_ BK1440⟩ (fun hHeld => ?_)
                clear hK K
                refine no_ (some 8) ?_
                refine on_ 4 (some 24) (bl_ 11 287) HT_ (fun K hK => ?_)
                refine gO_ Try.func51 #[.agg #[.slice A0_0 l0_0.length c0_0, .slice A0_1 l0_1.length c0_1], .string t1443] (by rfl) rfl rfl qa_ ?_
                with_reducible refine (impl_RunWord.calls kj3 _ _ l0_0 _ _ l0_1 t1443 t1444 t1447 true _ (cb_ HR0_0) HC0_0.out (cb_ HR0_1) HC0_1.out A15.out).mono ?_
                rintro e w20 ⟨v1445, v1448, rfl, ho0, ho1, hb⟩
                refine ⟨_, rfl, ?_⟩
                have HO1446 := rl_ w ho0
                have HO1449 := rl_ w ho1
                replace BK1440 := bb_ BK1440 hb
                replace BK1451 := bb_ BK1451 hb
                replace HB := b1_ hb
                clear hb ho0 ho1
                refine hK.out _ _ ⟨cz0_ BK1440, cz1_ BK1440⟩ (fun hHeld => ?_)
                clear hK K
                refine no_ (some 24) ?_
                refine pu_ 5 (some 19) (bl_ 11 319) HT_ ?_
                refine pu_ 6 (some 25) (bl_ 11 383) HT_ ?_
                refine pu_ 7 (some 26) (bl_ 11 511) HT_ ?_
                exact norm_ (by simp only [putAll, Act.put, List.setIfInBounds_toArray, List.set_cons_zero, List.set_cons_succ]) (hCont (v1445, v1448, gb1451) _ ⟨hHeld, (rr_ HO1446), (rr_ HO1449), (kk_ BK1440), (kk_ BK1451), GW1451.out, GE1451.out, NB1440_1451.out, NB1451_1440.out, hB_⟩)
            · skip
              refine box_step ?hg (N := 8) ?hd (cs := #[.slice none 0 0, .slice none 0 0]) (t := 27) ?hr ?_; (case hd => rfl); (case hg => rfl); (case hr => first | (go_simp; done) | (go_simp; rfl))
              intro gb1451 hg w19 hbox hb
              have BK1451 := Aside0.mk hbox
              have GW1451 := gw_ w hg
              have GE1451 := GW1451
              replace HB := b1_ hb
              have NB1440_1451 := gN_ BK1440 hg
              have NB1451_1440 := gP_ BK1440 hg
              replace BK1440 := bb_ BK1440 hb
              clear hb hbox hg
              refine hK.out _ _ ⟨cz0_ BK1440, cz1_ BK1440⟩ (fun hHeld => ?_)
              clear hK K
              refine no_ (some 8) ?_
              refine on_ 3 (some 23) (bl_ 11 271) HT_ (fun K hK => ?_)
              refine gO_ Try.func49 #[.int .i64 a1, .int .i64 a2] (by rfl) rfl rfl qa_ ?_
              with_reducible refine (impl_DirectionWord.calls kj3 a1 a2 t1443 _ A14.out).mono ?_
              rintro e w' ⟨rfl, ⟨nd, rfl⟩⟩
              refine ⟨_, rfl, ?_⟩
              refine hK.out _ _ ⟨cz0_ BK1440, cz1_ BK1440⟩ (fun hHeld => ?_)
              clear hK K
              refine no_ (some 23) ?_
              refine on_ 4 (some 24) (bl_ 11 287) HT_ (fun K hK => ?_)
              refine gO_ Try.func51 #[.agg #[.slice A0_0 l0_0.length c0_0, .slice A0_1 l0_1.length c0_1], .string t1443] (by rfl) rfl rfl qa_ ?_
              with_reducible refine (impl_RunWord.calls kj3 _ _ l0_0 _ _ l0_1 t1443 t1444 t1447 true _ (cw_ (Kd.C_below HR0_0.out hB_)) HC0_0.out (cw_ (Kd.C_below HR0_1.out hB_)) HC0_1.out A15.out).mono ?_
              rintro e w20 ⟨v1445, v1448, rfl, ho0, ho1, hb⟩
              refine ⟨_, rfl, ?_⟩
              have HO1446 := rl_ w ho0
              have HO1449 := rl_ w ho1
              replace BK1440 := bb_ BK1440 hb
              replace BK1451 := bb_ BK1451 hb
              replace HB := b1_ hb
              clear hb ho0 ho1
              refine hK.out _ _ ⟨cz0_ BK1440, cz1_ BK1440⟩ (fun hHeld => ?_)
              clear hK K
              refine no_ (some 24) ?_
              refine pu_ 5 (some 19) (bl_ 11 319) HT_ ?_
              refine pu_ 6 (some 25) (bl_ 11 383) HT_ ?_
              refine pu_ 7 (some 26) (bl_ 11 511) HT_ ?_
              exact norm_ (by simp only [putAll, Act.put, List.setIfInBounds_toArray, List.set_cons_zero, List.set_cons_succ]) (hCont (v1445, v1448, gb1451) _ ⟨hHeld, (rr_ HO1446), (rr_ HO1449), (kk_ BK1440), (kk_ BK1451), GW1451.out, GE1451.out, NB1440_1451.out, NB1451_1440.out, hB_⟩)
          rintro ⟨v1445, v1448, gb1451⟩ w21 ⟨hS_, h0_, h1_, h2_, h3_, h4_, h5_, h6_, h7_, h8_⟩
          have n0_ : Aside0 (Kd.R (Kd.int .i64) 3 w21 w.heap.size (fun k_ => some k_ ≠ (v1448 : Value).ownBlock) v1445 t1444) := ⟨h0_⟩
          have n1_ : Aside0 (Kd.R (Kd.int .i64) 3 w21 w.heap.size (fun k_ => some k_ ≠ (v1445 : Value).ownBlock) v1448 t1447) := ⟨h1_⟩
          have n2_ : Aside0 (w21.heap[gb1440]? = some (.cells #[.slice A0_0 l0_0.length c0_0, .slice A0_1 l0_1.length c0_1] 27 (0, 0))) := ⟨h2_⟩
          have n3_ : Aside0 (w21.heap[gb1451]? = some (.cells #[.slice none 0 0, .slice none 0 0] 27 (0, 0))) := ⟨h3_⟩
          have n4_ : Aside0 (w.heap.size ≤ gb1451) := ⟨h4_⟩
          have n5_ : Aside0 (w.heap.size ≤ gb1451) := ⟨h5_⟩
          have n6_ : Aside0 (gb1440 ≠ gb1451) := ⟨h6_⟩
          have n7_ : Aside0 (gb1451 ≠ gb1440) := ⟨h7_⟩
          have n8_ : Aside0 (Below w.heap.size w w21) := ⟨h8_⟩
          clear BK1440
          clear HB
          clear h0_ h1_ h2_ h3_ h4_ h5_ h6_ h7_ h8_
          have HO1446 := n0_
          have HO1449 := n1_
          have BK1440 := n2_
          have BK1451 := n3_
          have GW1451 := n4_
          have GE1451 := n5_
          have NB1440_1451 := n6_
          have NB1451_1440 := n7_
          have HB := n8_
          clear n0_ n1_ n2_ n3_ n4_ n5_ n6_ n7_ n8_
          have hHeld : w21.cell? ⟨gb1440, 0, none⟩ = some (.slice A0_0 l0_0.length c0_0) ∧ w21.cell? ⟨gb1440, 1, none⟩ = some (.slice A0_1 l0_1.length c0_1) := hS_
          obtain ⟨Ao22, co22, eo22⟩ := Kd.R_slice HO1446.out
          (first | subst eo22 | (injection eo22 with f1_ f2_ f3_; have f4_ := f1_.symm; have f5_ := f3_.symm; clear f1_ f2_ f3_; subst f4_; subst f5_))
          obtain ⟨Ao24, co24, eo24⟩ := Kd.R_slice HO1449.out
          (first | subst eo24 | (injection eo24 with f1_ f2_ f3_; have f4_ := f1_.symm; have f5_ := f3_.symm; clear f1_ f2_ f3_; subst f4_; subst f5_))
          refine norm_ (a' := ?_) ?_ ?_
          rotate_left
          · simp only [putAll, Act.put, List.setIfInBounds_toArray, List.set_cons_zero, List.set_cons_succ]
            rfl
          refine on_ 9 (none) (bl_ 11 1023) HT_ (fun K hK => ?_)
          have hs23 : w21.cell? ⟨gb1451, 0, none⟩ = some (.slice none 0 0) := cz0_ BK1451
          have hfs23 := blk_frozen BK1451.out 0
          have hns23_0 := NB1440_1451.out
          have hms23_0 := NB1451_1440.out
          have hs25 : w21.cell? ⟨gb1451, 1, none⟩ = some (.slice none 0 0) := cz1_ BK1451
          have hfs25 := blk_frozen BK1451.out 1
          have hns25_0 := NB1440_1451.out
          have hms25_0 := NB1451_1440.out
          refine skip_ (w1 := ?_) (by rfl) rfl ?_ ?_
          rotate_left
          · go_simp
            rfl
          refine hK.out _ _ ⟨((cell_far (p := ⟨gb1451, _, none⟩) NB1440_1451.out _).trans (((cell_far (p := ⟨gb1451, _, none⟩) NB1440_1451.out _).trans (hHeld.1)))), ((cell_far (p := ⟨gb1451, _, none⟩) NB1440_1451.out _).trans (((cell_far (p := ⟨gb1451, _, none⟩) NB1440_1451.out _).trans (hHeld.2))))⟩ (fun hHeld => ?_)
          clear hK K
          refine pu_ 10 (some 9) (bl_ 11 2047) HT_ ?_
          refine done_ (done_of HT_.out (by kernel_rfl)) ?_
          have hnb26 := NB1451_1440.out
          have hnc26 := NB1440_1451.out
          obtain ⟨hcz27_0, hcz27_1, hfz27_0, hfz27_1⟩ := c2_ BK1451
          try go_wp2_with (first | ((with_reducible refine gate_callee (f := 20) rfl ?_); refine gL_ (some 30) Try.func20 #[.agg #[.slice Ao22 t1444.length co22, .slice Ao24 t1447.length co24]] rfl qa_ ?_; (with_reducible refine (impl_CylindersOf.calls kj3 _ _ t1444 _ _ t1447 t1452 t1455 _ ?side1 ?side2 ?side3 ?side4 A17.out).mono ?_); (case side1 => refine (Kd.R_reads' (e := 3) (base := w.heap.size) (ok := fun k_ => some k_ ≠ (.slice Ao24 t1447.length co24 : Value).ownBlock) (n := t1444.length) (c := co22) ?_).2.2; exact (rw_ (fa_ HO1446 BK1451))); (case side2 => exact (Kd.R_reads' HO1446.out).2.1); (case side3 => refine (Kd.R_reads' (e := 3) (base := w.heap.size) (ok := fun k_ => some k_ ≠ (.slice Ao22 t1444.length co22 : Value).ownBlock) (n := t1447.length) (c := co24) ?_).2.2; exact (rw_ (fa_ HO1449 BK1451))); (case side4 => exact (Kd.R_reads' HO1449.out).2.1); rintro e w28 ⟨v1453, rfl, ho0, hb⟩; refine ⟨_, rfl, ?_⟩; replace HO1446 := Aside0.mk (Kd.R_below (rw_ (fa_ HO1446 BK1451)) hb); replace HO1449 := Aside0.mk (Kd.R_below (rw_ (fa_ HO1449 BK1451)) hb); have HO1454 := rl_ w ho0; replace BK1440 := Aside0.mk (blk_below (g := gb1440) (o := .cells #[.slice A0_0 l0_0.length c0_0, .slice A0_1 l0_1.length c0_1] 27 (0, 0)) (by (with_reducible repeat (first | refine blk_drewN ?_ _ | refine blk_drew ?_ | refine blk_alloc ?_ _)); refine blk_far ?_ NB1440_1451.out _; (with_reducible repeat (first | refine blk_drewN ?_ _ | refine blk_drew ?_ | refine blk_alloc ?_ _)); refine blk_far ?_ NB1440_1451.out _; (with_reducible repeat (first | refine blk_drewN ?_ _ | refine blk_drew ?_ | refine blk_alloc ?_ _)); exact BK1440.out) hb); replace BK1451 := Aside0.mk (blk_below (g := gb1451) (o := .cells #[.slice Ao22 t1444.length co22, .slice Ao24 t1447.length co24] 27 (0, 0)) qp_ hb); replace HB := b1_ hb; clear hb ho0))
          go_ret2
          exact ⟨_, qb_, (rr_ HO1454), hB_⟩
        · replace c16 := Bool.eq_false_iff.mpr c16
          subst c16
          have H1 : (some (([] : List (S44)), false)) = some (r1, r2) := by rw [if_neg (show ¬ (false = true) by decide)] at H; exact H
          clear H
          have H := H1
          clear H1
          simp only [Option.some.injEq, Prod.mk.injEq] at H
          obtain ⟨rfl, rfl⟩ := H
          try go_wp2
          replace BK1440 := Aside0.mk (blk_drew BK1440.out)
          replace HB := Aside0.mk (below_drew1 HB.out)
          refine start_ (n := 11) (S := fun w' => w'.cell? ⟨gb1440, 0, none⟩ = some (.slice A0_0 l0_0.length c0_0) ∧ w'.cell? ⟨gb1440, 1, none⟩ = some (.slice A0_1 l0_1.length c0_1)) (ds := []) (bl_ 11 0) (by kernel_rfl) rfl (by kernel_rfl) ⟨cz0_ BK1440, cz1_ BK1440⟩ (fun hHeld => ?_); refine with_tabW impl_CylindersIn.tab3 impl_CylindersIn.bits3 (fun HT_ HW_ => ?_)
          generalize wc.drew = w29 at BK1440 HB hHeld ⊢
          refine pu_ 1 (some 21) (bl_ 11 2) HT_ ?_
          refine pu_ 2 (some 22) (bl_ 11 6) HT_ ?_
          refine ta_ 0 (some 20) (bl_ 11 7) HT_ HW_ hHeld ?_
          refine join_ (σ := Value × Value × Nat) 2 (bl_ 11 511) (fun s_ => [(23, .string t1443), (24, .tuple #[.agg #[s_.1, s_.2.1], .bool false]), (8, .pointer (some ⟨s_.2.2, 0, none⟩)), (19, .tuple #[.agg #[s_.1, s_.2.1], .bool false]), (25, .agg #[s_.1, s_.2.1]), (26, .bool false)]) (fun s_ w' => (w'.cell? ⟨gb1440, 0, none⟩ = some (.slice A0_0 l0_0.length c0_0) ∧ w'.cell? ⟨gb1440, 1, none⟩ = some (.slice A0_1 l0_1.length c0_1)) ∧ (Kd.R (Kd.int .i64) 3 w' w.heap.size (fun k_ => some k_ ≠ (s_.2.1 : Value).ownBlock) s_.1 t1444) ∧ (Kd.R (Kd.int .i64) 3 w' w.heap.size (fun k_ => some k_ ≠ (s_.1 : Value).ownBlock) s_.2.1 t1447) ∧ (w'.heap[gb1440]? = some (.cells #[.slice A0_0 l0_0.length c0_0, .slice A0_1 l0_1.length c0_1] 27 (0, 0))) ∧ (w'.heap[s_.2.2]? = some (.cells #[.slice none 0 0, .slice none 0 0] 27 (0, 0))) ∧ (w.heap.size ≤ s_.2.2) ∧ (w.heap.size ≤ s_.2.2) ∧ (gb1440 ≠ s_.2.2) ∧ (s_.2.2 ≠ gb1440) ∧ (Below w.heap.size w w')) ?_ ?_
          rotate_left
          · intro hCont
            refine two_ (i := 3) (j := 8) (Ni := some 23) (Nj := some 8) (bl_ 11 15) (bl_ 11 263) rfl rfl rfl rfl (two_of HT_.out (by kernel_rfl)) (by decide) (by decide) (fun K hK => ?_) (fun K hK => ?_)
            · skip
              refine gO_ Try.func49 #[.int .i64 a1, .int .i64 a2] (by rfl) rfl rfl qa_ ?_
              with_reducible refine (impl_DirectionWord.calls kj3 a1 a2 t1443 _ A14.out).mono ?_
              rintro e w' ⟨rfl, ⟨nd, rfl⟩⟩
              refine ⟨_, rfl, ?_⟩
              refine hK.out _ _ ⟨cz0_ BK1440, cz1_ BK1440⟩ (fun hHeld => ?_)
              clear hK K
              refine no_ (some 23) ?_
              refine two_ (i := 4) (j := 8) (Ni := some 24) (Nj := some 8) (bl_ 11 31) (bl_ 11 271) rfl rfl rfl rfl (two_of HT_.out (by kernel_rfl)) (by decide) (by decide) (fun K hK => ?_) (fun K hK => ?_)
              · skip
                refine gO_ Try.func51 #[.agg #[.slice A0_0 l0_0.length c0_0, .slice A0_1 l0_1.length c0_1], .string t1443] (by rfl) rfl rfl qa_ ?_
                with_reducible refine (impl_RunWord.calls kj3 _ _ l0_0 _ _ l0_1 t1443 t1444 t1447 false _ (cw_ (Kd.C_below HR0_0.out hB_)) HC0_0.out (cw_ (Kd.C_below HR0_1.out hB_)) HC0_1.out A15.out).mono ?_
                rintro e w30 ⟨v1445, v1448, rfl, ho0, ho1, hb⟩
                refine ⟨_, rfl, ?_⟩
                have HO1446 := rl_ w ho0
                have HO1449 := rl_ w ho1
                replace BK1440 := bb_ BK1440 hb
                replace HB := b1_ hb
                clear hb ho0 ho1
                refine hK.out _ _ ⟨cz0_ BK1440, cz1_ BK1440⟩ (fun hHeld => ?_)
                clear hK K
                refine no_ (some 24) ?_
                refine pu_ 5 (some 19) (bl_ 11 63) HT_ ?_
                refine pu_ 6 (some 25) (bl_ 11 127) HT_ ?_
                refine pu_ 7 (some 26) (bl_ 11 255) HT_ ?_
                refine on_ 8 (some 8) (bl_ 11 511) HT_ (fun K hK => ?_)
                refine box_step ?hg (N := 8) ?hd (cs := #[.slice none 0 0, .slice none 0 0]) (t := 27) ?hr ?_; (case hd => rfl); (case hg => rfl); (case hr => first | (go_simp; done) | (go_simp; rfl))
                intro gb1451 hg w31 hbox hb
                replace HO1446 := rb_ HO1446 hb
                replace HO1449 := rb_ HO1449 hb
                have BK1451 := Aside0.mk hbox
                have GW1451 := gw_ w hg
                have GE1451 := GW1451
                replace HB := b1_ hb
                have NB1440_1451 := gN_ BK1440 hg
                have NB1451_1440 := gP_ BK1440 hg
                replace BK1440 := bb_ BK1440 hb
                clear hb hbox hg
                refine hK.out _ _ ⟨cz0_ BK1440, cz1_ BK1440⟩ (fun hHeld => ?_)
                clear hK K
                refine no_ (some 8) ?_
                exact norm_ (by simp only [putAll, Act.put, List.setIfInBounds_toArray, List.set_cons_zero, List.set_cons_succ]) (hCont (v1445, v1448, gb1451) _ ⟨hHeld, (rr_ HO1446), (rr_ HO1449), (kk_ BK1440), (kk_ BK1451), GW1451.out, GE1451.out, NB1440_1451.out, NB1451_1440.out, hB_⟩)
              · skip
                refine box_step ?hg (N := 8) ?hd (cs := #[.slice none 0 0, .slice none 0 0]) (t := 27) ?hr ?_; (case hd => rfl); (case hg => rfl); (case hr => first | (go_simp; done) | (go_simp; rfl))
                intro gb1451 hg w30 hbox hb
                have BK1451 := Aside0.mk hbox
                have GW1451 := gw_ w hg
                have GE1451 := GW1451
                replace HB := b1_ hb
                have NB1440_1451 := gN_ BK1440 hg
                have NB1451_1440 := gP_ BK1440 hg
                replace BK1440 := bb_ BK1440 hb
                clear hb hbox hg
                refine hK.out _ _ ⟨cz0_ BK1440, cz1_ BK1440⟩ (fun hHeld => ?_)
                clear hK K
                refine no_ (some 8) ?_
                refine on_ 4 (some 24) (bl_ 11 287) HT_ (fun K hK => ?_)
                refine gO_ Try.func51 #[.agg #[.slice A0_0 l0_0.length c0_0, .slice A0_1 l0_1.length c0_1], .string t1443] (by rfl) rfl rfl qa_ ?_
                with_reducible refine (impl_RunWord.calls kj3 _ _ l0_0 _ _ l0_1 t1443 t1444 t1447 false _ (cb_ HR0_0) HC0_0.out (cb_ HR0_1) HC0_1.out A15.out).mono ?_
                rintro e w31 ⟨v1445, v1448, rfl, ho0, ho1, hb⟩
                refine ⟨_, rfl, ?_⟩
                have HO1446 := rl_ w ho0
                have HO1449 := rl_ w ho1
                replace BK1440 := bb_ BK1440 hb
                replace BK1451 := bb_ BK1451 hb
                replace HB := b1_ hb
                clear hb ho0 ho1
                refine hK.out _ _ ⟨cz0_ BK1440, cz1_ BK1440⟩ (fun hHeld => ?_)
                clear hK K
                refine no_ (some 24) ?_
                refine pu_ 5 (some 19) (bl_ 11 319) HT_ ?_
                refine pu_ 6 (some 25) (bl_ 11 383) HT_ ?_
                refine pu_ 7 (some 26) (bl_ 11 511) HT_ ?_
                exact norm_ (by simp only [putAll, Act.put, List.setIfInBounds_toArray, List.set_cons_zero, List.set_cons_succ]) (hCont (v1445, v1448, gb1451) _ ⟨hHeld, (rr_ HO1446), (rr_ HO1449), (kk_ BK1440), (kk_ BK1451), GW1451.out, GE1451.out, NB1440_1451.out, NB1451_1440.out, hB_⟩)
            · skip
              refine box_step ?hg (N := 8) ?hd (cs := #[.slice none 0 0, .slice none 0 0]) (t := 27) ?hr ?_; (case hd => rfl); (case hg => rfl); (case hr => first | (go_simp; done) | (go_simp; rfl))
              intro gb1451 hg w30 hbox hb
              have BK1451 := Aside0.mk hbox
              have GW1451 := gw_ w hg
              have GE1451 := GW1451
              replace HB := b1_ hb
              have NB1440_1451 := gN_ BK1440 hg
              have NB1451_1440 := gP_ BK1440 hg
              replace BK1440 := bb_ BK1440 hb
              clear hb hbox hg
              refine hK.out _ _ ⟨cz0_ BK1440, cz1_ BK1440⟩ (fun hHeld => ?_)
              clear hK K
              refine no_ (some 8) ?_
              refine on_ 3 (some 23) (bl_ 11 271) HT_ (fun K hK => ?_)
              refine gO_ Try.func49 #[.int .i64 a1, .int .i64 a2] (by rfl) rfl rfl qa_ ?_
              with_reducible refine (impl_DirectionWord.calls kj3 a1 a2 t1443 _ A14.out).mono ?_
              rintro e w' ⟨rfl, ⟨nd, rfl⟩⟩
              refine ⟨_, rfl, ?_⟩
              refine hK.out _ _ ⟨cz0_ BK1440, cz1_ BK1440⟩ (fun hHeld => ?_)
              clear hK K
              refine no_ (some 23) ?_
              refine on_ 4 (some 24) (bl_ 11 287) HT_ (fun K hK => ?_)
              refine gO_ Try.func51 #[.agg #[.slice A0_0 l0_0.length c0_0, .slice A0_1 l0_1.length c0_1], .string t1443] (by rfl) rfl rfl qa_ ?_
              with_reducible refine (impl_RunWord.calls kj3 _ _ l0_0 _ _ l0_1 t1443 t1444 t1447 false _ (cw_ (Kd.C_below HR0_0.out hB_)) HC0_0.out (cw_ (Kd.C_below HR0_1.out hB_)) HC0_1.out A15.out).mono ?_
              rintro e w31 ⟨v1445, v1448, rfl, ho0, ho1, hb⟩
              refine ⟨_, rfl, ?_⟩
              have HO1446 := rl_ w ho0
              have HO1449 := rl_ w ho1
              replace BK1440 := bb_ BK1440 hb
              replace BK1451 := bb_ BK1451 hb
              replace HB := b1_ hb
              clear hb ho0 ho1
              refine hK.out _ _ ⟨cz0_ BK1440, cz1_ BK1440⟩ (fun hHeld => ?_)
              clear hK K
              refine no_ (some 24) ?_
              refine pu_ 5 (some 19) (bl_ 11 319) HT_ ?_
              refine pu_ 6 (some 25) (bl_ 11 383) HT_ ?_
              refine pu_ 7 (some 26) (bl_ 11 511) HT_ ?_
              exact norm_ (by simp only [putAll, Act.put, List.setIfInBounds_toArray, List.set_cons_zero, List.set_cons_succ]) (hCont (v1445, v1448, gb1451) _ ⟨hHeld, (rr_ HO1446), (rr_ HO1449), (kk_ BK1440), (kk_ BK1451), GW1451.out, GE1451.out, NB1440_1451.out, NB1451_1440.out, hB_⟩)
          rintro ⟨v1445, v1448, gb1451⟩ w32 ⟨hS_, h0_, h1_, h2_, h3_, h4_, h5_, h6_, h7_, h8_⟩
          have n0_ : Aside0 (Kd.R (Kd.int .i64) 3 w32 w.heap.size (fun k_ => some k_ ≠ (v1448 : Value).ownBlock) v1445 t1444) := ⟨h0_⟩
          have n1_ : Aside0 (Kd.R (Kd.int .i64) 3 w32 w.heap.size (fun k_ => some k_ ≠ (v1445 : Value).ownBlock) v1448 t1447) := ⟨h1_⟩
          have n2_ : Aside0 (w32.heap[gb1440]? = some (.cells #[.slice A0_0 l0_0.length c0_0, .slice A0_1 l0_1.length c0_1] 27 (0, 0))) := ⟨h2_⟩
          have n3_ : Aside0 (w32.heap[gb1451]? = some (.cells #[.slice none 0 0, .slice none 0 0] 27 (0, 0))) := ⟨h3_⟩
          have n4_ : Aside0 (w.heap.size ≤ gb1451) := ⟨h4_⟩
          have n5_ : Aside0 (w.heap.size ≤ gb1451) := ⟨h5_⟩
          have n6_ : Aside0 (gb1440 ≠ gb1451) := ⟨h6_⟩
          have n7_ : Aside0 (gb1451 ≠ gb1440) := ⟨h7_⟩
          have n8_ : Aside0 (Below w.heap.size w w32) := ⟨h8_⟩
          clear BK1440
          clear HB
          clear h0_ h1_ h2_ h3_ h4_ h5_ h6_ h7_ h8_
          have HO1446 := n0_
          have HO1449 := n1_
          have BK1440 := n2_
          have BK1451 := n3_
          have GW1451 := n4_
          have GE1451 := n5_
          have NB1440_1451 := n6_
          have NB1451_1440 := n7_
          have HB := n8_
          clear n0_ n1_ n2_ n3_ n4_ n5_ n6_ n7_ n8_
          have hHeld : w32.cell? ⟨gb1440, 0, none⟩ = some (.slice A0_0 l0_0.length c0_0) ∧ w32.cell? ⟨gb1440, 1, none⟩ = some (.slice A0_1 l0_1.length c0_1) := hS_
          obtain ⟨Ao33, co33, eo33⟩ := Kd.R_slice HO1446.out
          (first | subst eo33 | (injection eo33 with f1_ f2_ f3_; have f4_ := f1_.symm; have f5_ := f3_.symm; clear f1_ f2_ f3_; subst f4_; subst f5_))
          obtain ⟨Ao35, co35, eo35⟩ := Kd.R_slice HO1449.out
          (first | subst eo35 | (injection eo35 with f1_ f2_ f3_; have f4_ := f1_.symm; have f5_ := f3_.symm; clear f1_ f2_ f3_; subst f4_; subst f5_))
          refine norm_ (a' := ?_) ?_ ?_
          rotate_left
          · simp only [putAll, Act.put, List.setIfInBounds_toArray, List.set_cons_zero, List.set_cons_succ]
            rfl
          refine on_ 9 (none) (bl_ 11 1023) HT_ (fun K hK => ?_)
          have hs34 : w32.cell? ⟨gb1451, 0, none⟩ = some (.slice none 0 0) := cz0_ BK1451
          have hfs34 := blk_frozen BK1451.out 0
          have hns34_0 := NB1440_1451.out
          have hms34_0 := NB1451_1440.out
          have hs36 : w32.cell? ⟨gb1451, 1, none⟩ = some (.slice none 0 0) := cz1_ BK1451
          have hfs36 := blk_frozen BK1451.out 1
          have hns36_0 := NB1440_1451.out
          have hms36_0 := NB1451_1440.out
          refine skip_ (w1 := ?_) (by rfl) rfl ?_ ?_
          rotate_left
          · go_simp
            rfl
          refine hK.out _ _ ⟨((cell_far (p := ⟨gb1451, _, none⟩) NB1440_1451.out _).trans (((cell_far (p := ⟨gb1451, _, none⟩) NB1440_1451.out _).trans (hHeld.1)))), ((cell_far (p := ⟨gb1451, _, none⟩) NB1440_1451.out _).trans (((cell_far (p := ⟨gb1451, _, none⟩) NB1440_1451.out _).trans (hHeld.2))))⟩ (fun hHeld => ?_)
          clear hK K
          refine pu_ 10 (some 9) (bl_ 11 2047) HT_ ?_
          refine done_ (done_of HT_.out (by kernel_rfl)) ?_
          try go_wp2
          go_ret2
          exact ⟨_, qb_, by first | exact Kd.R_nil _ _ _ _ _ | exact Kd.N_nil _ _ _ _ _ | exact Kd.V_nil _ _ _ _ _ | exact Kd.Q_nil _ _ _ _ _ | exact Kd.S_nil _ _ _ _ _, hB_⟩
end Go.Proofs.Ytbdnellgioimbaa.A
end
section
namespace Go.Proofs.Ytbdnellgioimbaa.A
open Go.RowKit Go.Proofs.YtbdnellgioimbaaW.PrintWords Go.Proofs.YtbdnellgioimbaaW.PrintLast Go.Proofs.YtbdnellgioimbaaW.PrintMore
attribute [local go_sem] max2_int min2_int max_two min_two max_three min_three max_four min_four
set_option linter.unusedVariables false
set_option linter.unusedSimpArgs false
def impl_IsOneCylinder.f (k : Nat) (l0_0 : List Int) (l0_1 : List Int) (a1 : Int) (a2 : Int) : Option (Bool) := (impl_CylindersIn.f k l0_0 l0_1 a1 a2).bind fun bt1512 => (if bt1512.2 = true then (some ((bt1512.1.length : Int) == 1)) else (some false))
theorem impl_IsOneCylinder.mono : ∀ a0 a1 a2 a3 k, LeO (impl_IsOneCylinder.f k a0 a1 a2 a3) (impl_IsOneCylinder.f (k + 1) a0 a1 a2 a3) := by
  intro a0 a1 a2 a3 k
  unfold impl_IsOneCylinder.f
  repeat' first|exact impl_CylindersIn.mono _ _ _ _ _|exact lo_|refine LeO.ite ?_ ?_|refine LeO.bind ?_ (fun _ => ?_)
set_option maxHeartbeats 8000000 in
set_option maxRecDepth 100000 in
theorem impl_IsOneCylinder.calls (k : Nat) (A0_0 : Option Addr) (c0_0 : Nat) (l0_0 : List Int) (A0_1 : Option Addr) (c0_1 : Nat) (l0_1 : List Int) (a1 : Int) (a2 : Int) (r : Bool) (w : World) (hr0_0 : Kd.C (Kd.int .i64) w A0_0 l0_0.length l0_0) (hc0_0 : l0_0.length ≤ c0_0) (hr0_1 : Kd.C (Kd.int .i64) w A0_1 l0_1.length l0_1) (hc0_1 : l0_1.length ≤ c0_1) (h : impl_IsOneCylinder.f k l0_0 l0_1 a1 a2 = some r) :
    Calls Try.prog 48 #[.agg #[.slice A0_0 l0_0.length c0_0, .slice A0_1 l0_1.length c0_1], .int .i64 a1, .int .i64 a2] w fun e w' => e = .returned (.bool r) ∧ Below w.heap.size w w' := by
  have hu27 := Try.underlying27
  have HR0_0 := Aside0.mk hr0_0
  have HC0_0 := Aside0.mk hc0_0
  clear hr0_0 hc0_0
  have HR0_1 := Aside0.mk hr0_1
  have HC0_1 := Aside0.mk hc0_1
  clear hr0_1 hc0_1
  have HB := Aside0.mk (Below.refl w.heap.size w)
  have H := h
  unfold impl_IsOneCylinder.f at H
  clear h
  obtain ⟨⟨t1512, t1515⟩, A4, H⟩ := bi_ H
  try dsimp only at H
  by_cases c5 : t1515 = true
  · subst c5
    rw [if_pos rfl] at H
    obtain rfl := Option.some.inj H
    go_enter Try.func48, Try.ntmps48
    go_wp2_with (first | ((with_reducible refine gate_dst (N := 3) rfl ?_); (try (refine gate_guard (by rfl) ?_; dsimp only)); refine bx_ 3 #[.slice A0_0 l0_0.length c0_0, .slice A0_1 l0_1.length c0_1] 27 ?_; intro gb1511 hg w6 hbox hb; have BK1511 := Aside0.mk hbox; have GW1511 := gw_ w hg; have GE1511 := GW1511; replace HB := b1_ hb; clear hb hbox hg; obtain ⟨hcz7_0, hcz7_1, hfz7_0, hfz7_1⟩ := c2_ BK1511) | ((with_reducible refine gate_callee (f := 46) rfl ?_); refine gL_ (some 13) Try.func46 #[.agg #[.slice A0_0 l0_0.length c0_0, .slice A0_1 l0_1.length c0_1], .int .i64 a1, .int .i64 a2] rfl qa_ ?_; (with_reducible refine (impl_CylindersIn.calls k _ _ l0_0 _ _ l0_1 a1 a2 t1512 true _ (cb_ HR0_0) HC0_0.out (cb_ HR0_1) HC0_1.out A4.out).mono ?_); rintro e w8 ⟨v1513, rfl, ho0, hb⟩; refine ⟨_, rfl, ?_⟩; have HO1514 := rl_ w ho0; replace BK1511 := bb_ BK1511 hb; replace HB := b1_ hb; clear hb ho0; obtain ⟨Ao9, co9, eo9⟩ := Kd.R_slice HO1514.out; subst eo9))
    go_ret
    exact ⟨qb_, hB_⟩
  · replace c5 := Bool.eq_false_iff.mpr c5
    subst c5
    have H1 : (some false) = some r := by rw [if_neg (show ¬ (false = true) by decide)] at H; exact H
    clear H
    have H := H1
    clear H1
    obtain rfl := Option.some.inj H
    go_enter Try.func48, Try.ntmps48
    go_wp2_with (first | ((with_reducible refine gate_dst (N := 3) rfl ?_); (try (refine gate_guard (by rfl) ?_; dsimp only)); refine bx_ 3 #[.slice A0_0 l0_0.length c0_0, .slice A0_1 l0_1.length c0_1] 27 ?_; intro gb1511 hg w10 hbox hb; have BK1511 := Aside0.mk hbox; have GW1511 := gw_ w hg; have GE1511 := GW1511; replace HB := b1_ hb; clear hb hbox hg; obtain ⟨hcz11_0, hcz11_1, hfz11_0, hfz11_1⟩ := c2_ BK1511) | ((with_reducible refine gate_callee (f := 46) rfl ?_); refine gL_ (some 13) Try.func46 #[.agg #[.slice A0_0 l0_0.length c0_0, .slice A0_1 l0_1.length c0_1], .int .i64 a1, .int .i64 a2] rfl qa_ ?_; (with_reducible refine (impl_CylindersIn.calls k _ _ l0_0 _ _ l0_1 a1 a2 t1512 false _ (cb_ HR0_0) HC0_0.out (cb_ HR0_1) HC0_1.out A4.out).mono ?_); rintro e w12 ⟨v1513, rfl, ho0, hb⟩; refine ⟨_, rfl, ?_⟩; have HO1514 := rl_ w ho0; replace BK1511 := bb_ BK1511 hb; replace HB := b1_ hb; clear hb ho0))
    go_ret
    exact ⟨qb_, hB_⟩
end Go.Proofs.Ytbdnellgioimbaa.A
end
section
namespace Go.Proofs.Ytbdnellgioimbaa.A
open Go.RowKit Go.Proofs.YtbdnellgioimbaaW.PrintWords Go.Proofs.YtbdnellgioimbaaW.PrintLast Go.Proofs.YtbdnellgioimbaaW.PrintMore
attribute [local go_sem] max2_int min2_int max_two min_two max_three min_three max_four min_four
set_option linter.unusedVariables false
set_option linter.unusedSimpArgs false
def impl_product.f (a0_0 : Int) (a0_1 : Int) (a0_2 : Int) (a0_3 : Int) (a1_0 : Int) (a1_1 : Int) (a1_2 : Int) (a1_3 : Int) : Option (Int × Int × Int × Int) := some (wrap64 ((wrap64 (a0_0 * a1_0)) + (wrap64 (a0_1 * a1_2))), wrap64 ((wrap64 (a0_0 * a1_1)) + (wrap64 (a0_1 * a1_3))), wrap64 ((wrap64 (a0_2 * a1_0)) + (wrap64 (a0_3 * a1_2))), wrap64 ((wrap64 (a0_2 * a1_1)) + (wrap64 (a0_3 * a1_3))))
set_option maxHeartbeats 8000000 in
set_option maxRecDepth 100000 in
theorem impl_product.calls (a0_0 : Int) (a0_1 : Int) (a0_2 : Int) (a0_3 : Int) (a1_0 : Int) (a1_1 : Int) (a1_2 : Int) (a1_3 : Int) (r1 : Int) (r2 : Int) (r3 : Int) (r4 : Int) (w : World) (h : impl_product.f a0_0 a0_1 a0_2 a0_3 a1_0 a1_1 a1_2 a1_3 = some (r1, r2, r3, r4)) :
    Calls Try.prog 93 #[.agg #[.int .i64 a0_0, .int .i64 a0_1, .int .i64 a0_2, .int .i64 a0_3], .agg #[.int .i64 a1_0, .int .i64 a1_1, .int .i64 a1_2, .int .i64 a1_3]] w fun e w' => e = .returned (.agg #[.int .i64 r1, .int .i64 r2, .int .i64 r3, .int .i64 r4]) ∧ Below w.heap.size w w' := by
  have hu64 := Try.underlying64
  have HB := Aside0.mk (Below.refl w.heap.size w)
  have H := h
  unfold impl_product.f at H
  clear h
  simp only [Option.some.injEq, Prod.mk.injEq] at H
  obtain ⟨rfl, rfl, rfl, rfl⟩ := H
  go_enter Try.func93, Try.ntmps93
  go_wp2_with (first | ((with_reducible refine gate_dst (N := 2) rfl ?_); refine bx_ 2 #[.int .i64 a0_0, .int .i64 a0_1, .int .i64 a0_2, .int .i64 a0_3] 64 ?_; intro gb1540 hg w3 hbox hb; have BK1540 := Aside0.mk hbox; have GW1540 := gw_ w hg; have GE1540 := GW1540; replace HB := b1_ hb; clear hb hbox hg) | ((with_reducible refine gate_dst (N := 3) rfl ?_); refine bx_ 3 #[.int .i64 a1_0, .int .i64 a1_1, .int .i64 a1_2, .int .i64 a1_3] 64 ?_; intro gb1541 hg w4 hbox hb; have BK1541 := Aside0.mk hbox; have GW1541 := gw_ w hg; have GE1541 := GW1541; replace HB := b1_ hb; have NB1540_1541 := gN_ BK1540 hg; have NB1541_1540 := gP_ BK1540 hg; replace BK1540 := bb_ BK1540 hb; clear hb hbox hg) | ((with_reducible refine gate_dst (N := 4) rfl ?_); refine bx_ 4 #[.int .i64 0, .int .i64 0, .int .i64 0, .int .i64 0] 64 ?_; intro gb1542 hg w5 hbox hb; have BK1542 := Aside0.mk hbox; have GW1542 := gw_ w hg; have GE1542 := GW1542; replace HB := b1_ hb; have NB1540_1542 := gN_ BK1540 hg; have NB1542_1540 := gP_ BK1540 hg; replace BK1540 := bb_ BK1540 hb; have NB1541_1542 := gN_ BK1541 hg; have NB1542_1541 := gP_ BK1541 hg; replace BK1541 := bb_ BK1541 hb; clear hb hbox hg; have hnb6 := NB1540_1541.out; have hnc6 := NB1541_1540.out; have hnb7 := NB1540_1542.out; have hnc7 := NB1542_1540.out; have hcz8_0 := cz0_ BK1540; have hcz8_1 := cz1_ BK1540; have hcz8_2 := cz2_ BK1540; have hcz8_3 := cz3_ BK1540; have hfz8_0 := blk_frozen BK1540.out 0; have hfz8_1 := blk_frozen BK1540.out 1; have hfz8_2 := blk_frozen BK1540.out 2; have hfz8_3 := blk_frozen BK1540.out 3; have hnb9 := NB1541_1542.out; have hnc9 := NB1542_1541.out; have hcz10_0 := cz0_ BK1541; have hcz10_1 := cz1_ BK1541; have hcz10_2 := cz2_ BK1541; have hcz10_3 := cz3_ BK1541; have hfz10_0 := blk_frozen BK1541.out 0; have hfz10_1 := blk_frozen BK1541.out 1; have hfz10_2 := blk_frozen BK1541.out 2; have hfz10_3 := blk_frozen BK1541.out 3; have hcz11_0 := cz0_ BK1542; have hcz11_1 := cz1_ BK1542; have hcz11_2 := cz2_ BK1542; have hcz11_3 := cz3_ BK1542; have hfz11_0 := blk_frozen BK1542.out 0; have hfz11_1 := blk_frozen BK1542.out 1; have hfz11_2 := blk_frozen BK1542.out 2; have hfz11_3 := blk_frozen BK1542.out 3))
  refine bodyPost_ret (results_cell_row rfl _ _ gb1542 64 #[.int .i64 (wrap64 ((wrap64 (a0_0 * a1_0)) + (wrap64 (a0_1 * a1_2)))), .int .i64 (wrap64 ((wrap64 (a0_0 * a1_1)) + (wrap64 (a0_1 * a1_3)))), .int .i64 (wrap64 ((wrap64 (a0_2 * a1_0)) + (wrap64 (a0_3 * a1_2)))), .int .i64 (wrap64 ((wrap64 (a0_2 * a1_1)) + (wrap64 (a0_3 * a1_3))))] (0, 0) _ rfl (by (with_reducible repeat (first | refine blk_drewN ?_ _ | refine blk_drew ?_ | refine blk_alloc ?_ _)); refine blk_put (cs := #[.int .i64 (wrap64 ((wrap64 (a0_0 * a1_0)) + (wrap64 (a0_1 * a1_2)))), .int .i64 (wrap64 ((wrap64 (a0_0 * a1_1)) + (wrap64 (a0_1 * a1_3)))), .int .i64 (wrap64 ((wrap64 (a0_2 * a1_0)) + (wrap64 (a0_3 * a1_2)))), .int .i64 0]) ?_ 3 _ rfl; (with_reducible repeat (first | refine blk_drewN ?_ _ | refine blk_drew ?_ | refine blk_alloc ?_ _)); refine blk_put (cs := #[.int .i64 (wrap64 ((wrap64 (a0_0 * a1_0)) + (wrap64 (a0_1 * a1_2)))), .int .i64 (wrap64 ((wrap64 (a0_0 * a1_1)) + (wrap64 (a0_1 * a1_3)))), .int .i64 0, .int .i64 0]) ?_ 2 _ rfl; (with_reducible repeat (first | refine blk_drewN ?_ _ | refine blk_drew ?_ | refine blk_alloc ?_ _)); refine blk_put (cs := #[.int .i64 (wrap64 ((wrap64 (a0_0 * a1_0)) + (wrap64 (a0_1 * a1_2)))), .int .i64 0, .int .i64 0, .int .i64 0]) ?_ 1 _ rfl; (with_reducible repeat (first | refine blk_drewN ?_ _ | refine blk_drew ?_ | refine blk_alloc ?_ _)); refine blk_put (cs := #[.int .i64 0, .int .i64 0, .int .i64 0, .int .i64 0]) ?_ 0 _ rfl; (with_reducible repeat (first | refine blk_drewN ?_ _ | refine blk_drew ?_ | refine blk_alloc ?_ _)); exact BK1542.out) Try.underlying64 rfl (by kernel_rfl)) rfl ?_
  exact ⟨qb_, hB_⟩
end Go.Proofs.Ytbdnellgioimbaa.A
end
section
namespace Go.Proofs.Ytbdnellgioimbaa.A
open Go.RowKit Go.Proofs.YtbdnellgioimbaaW.PrintWords Go.Proofs.YtbdnellgioimbaaW.PrintLast Go.Proofs.YtbdnellgioimbaaW.PrintMore
attribute [local go_sem] max2_int min2_int max_two min_two max_three min_three max_four min_four
set_option linter.unusedVariables false
set_option linter.unusedSimpArgs false
def impl_letterMatrix.f (a0 : Int) : Option (Int × Int × Int × Int) := if a0 = 84 then (some (1, 1, 0, 1)) else (if a0 = 116 then (some (1, (-1), 0, 1)) else (if a0 = 83 then (some (0, (-1), 1, 0)) else (some (0, 1, (-1), 0))))
set_option maxHeartbeats 8000000 in
set_option maxRecDepth 100000 in
theorem impl_letterMatrix.calls (a0 : Int) (r1 : Int) (r2 : Int) (r3 : Int) (r4 : Int) (w : World) (h : impl_letterMatrix.f a0 = some (r1, r2, r3, r4)) :
    Calls Try.prog 94 #[.int .u8 a0] w fun e w' => e = .returned (.agg #[.int .i64 r1, .int .i64 r2, .int .i64 r3, .int .i64 r4]) ∧ Below w.heap.size w w' := by
  have hu64 := Try.underlying64
  have HB := Aside0.mk (Below.refl w.heap.size w)
  have H := h
  unfold impl_letterMatrix.f at H
  clear h
  by_cases c2 : a0 = 84
  · rw [if_pos c2] at H
    have c2b0 : (a0 == 84) = true := beq_iff_eq.mpr c2
    have c2b1 : (a0 != 84) = false := bne_eq_false_iff_eq.mpr c2
    clear c2
    simp only [Option.some.injEq, Prod.mk.injEq] at H
    obtain ⟨rfl, rfl, rfl, rfl⟩ := H
    go_enter Try.func94, Try.ntmps94
    go_wp2_with (first | ((with_reducible refine gate_dst (N := 2) rfl ?_); refine bx_ 2 #[.int .i64 0, .int .i64 0, .int .i64 0, .int .i64 0] 64 ?_; intro gb1543 hg w3 hbox hb; have BK1543 := Aside0.mk hbox; have GW1543 := gw_ w hg; have GE1543 := GW1543; replace HB := b1_ hb; clear hb hbox hg; have hcz4_0 := cz0_ BK1543; have hcz4_1 := cz1_ BK1543; have hcz4_2 := cz2_ BK1543; have hcz4_3 := cz3_ BK1543; have hfz4_0 := blk_frozen BK1543.out 0; have hfz4_1 := blk_frozen BK1543.out 1; have hfz4_2 := blk_frozen BK1543.out 2; have hfz4_3 := blk_frozen BK1543.out 3))
    refine bodyPost_ret (results_cell_row rfl _ _ gb1543 64 #[.int .i64 1, .int .i64 1, .int .i64 0, .int .i64 1] (0, 0) _ rfl (by (with_reducible repeat (first | refine blk_drewN ?_ _ | refine blk_drew ?_ | refine blk_alloc ?_ _)); refine blk_put (cs := #[.int .i64 1, .int .i64 1, .int .i64 0, .int .i64 0]) ?_ 3 _ rfl; (with_reducible repeat (first | refine blk_drewN ?_ _ | refine blk_drew ?_ | refine blk_alloc ?_ _)); refine blk_put (cs := #[.int .i64 1, .int .i64 1, .int .i64 0, .int .i64 0]) ?_ 2 _ rfl; (with_reducible repeat (first | refine blk_drewN ?_ _ | refine blk_drew ?_ | refine blk_alloc ?_ _)); refine blk_put (cs := #[.int .i64 1, .int .i64 0, .int .i64 0, .int .i64 0]) ?_ 1 _ rfl; (with_reducible repeat (first | refine blk_drewN ?_ _ | refine blk_drew ?_ | refine blk_alloc ?_ _)); refine blk_put (cs := #[.int .i64 0, .int .i64 0, .int .i64 0, .int .i64 0]) ?_ 0 _ rfl; (with_reducible repeat (first | refine blk_drewN ?_ _ | refine blk_drew ?_ | refine blk_alloc ?_ _)); exact BK1543.out) Try.underlying64 rfl (by kernel_rfl)) rfl ?_
    exact ⟨qb_, hB_⟩
  · rw [if_neg c2] at H
    have c2b0 : (a0 == 84) = false := beq_eq_false_iff_ne.mpr c2
    have c2b1 : (a0 != 84) = true := bne_iff_ne.mpr c2
    by_cases c5 : a0 = 116
    · rw [if_pos c5] at H
      have c5b0 : (a0 == 116) = true := beq_iff_eq.mpr c5
      have c5b1 : (a0 != 116) = false := bne_eq_false_iff_eq.mpr c5
      clear c5
      simp only [Option.some.injEq, Prod.mk.injEq] at H
      obtain ⟨rfl, rfl, rfl, rfl⟩ := H
      go_enter Try.func94, Try.ntmps94
      go_wp2_with (first | ((with_reducible refine gate_dst (N := 2) rfl ?_); refine bx_ 2 #[.int .i64 0, .int .i64 0, .int .i64 0, .int .i64 0] 64 ?_; intro gb1543 hg w6 hbox hb; have BK1543 := Aside0.mk hbox; have GW1543 := gw_ w hg; have GE1543 := GW1543; replace HB := b1_ hb; clear hb hbox hg; have hcz7_0 := cz0_ BK1543; have hcz7_1 := cz1_ BK1543; have hcz7_2 := cz2_ BK1543; have hcz7_3 := cz3_ BK1543; have hfz7_0 := blk_frozen BK1543.out 0; have hfz7_1 := blk_frozen BK1543.out 1; have hfz7_2 := blk_frozen BK1543.out 2; have hfz7_3 := blk_frozen BK1543.out 3))
      refine bodyPost_ret (results_cell_row rfl _ _ gb1543 64 #[.int .i64 1, .int .i64 (-1), .int .i64 0, .int .i64 1] (0, 0) _ rfl (by (with_reducible repeat (first | refine blk_drewN ?_ _ | refine blk_drew ?_ | refine blk_alloc ?_ _)); refine blk_put (cs := #[.int .i64 1, .int .i64 (-1), .int .i64 0, .int .i64 0]) ?_ 3 _ rfl; (with_reducible repeat (first | refine blk_drewN ?_ _ | refine blk_drew ?_ | refine blk_alloc ?_ _)); refine blk_put (cs := #[.int .i64 1, .int .i64 (-1), .int .i64 0, .int .i64 0]) ?_ 2 _ rfl; (with_reducible repeat (first | refine blk_drewN ?_ _ | refine blk_drew ?_ | refine blk_alloc ?_ _)); refine blk_put (cs := #[.int .i64 1, .int .i64 0, .int .i64 0, .int .i64 0]) ?_ 1 _ rfl; (with_reducible repeat (first | refine blk_drewN ?_ _ | refine blk_drew ?_ | refine blk_alloc ?_ _)); refine blk_put (cs := #[.int .i64 0, .int .i64 0, .int .i64 0, .int .i64 0]) ?_ 0 _ rfl; (with_reducible repeat (first | refine blk_drewN ?_ _ | refine blk_drew ?_ | refine blk_alloc ?_ _)); exact BK1543.out) Try.underlying64 rfl (by kernel_rfl)) rfl ?_
      exact ⟨qb_, hB_⟩
    · rw [if_neg c5] at H
      have c5b0 : (a0 == 116) = false := beq_eq_false_iff_ne.mpr c5
      have c5b1 : (a0 != 116) = true := bne_iff_ne.mpr c5
      by_cases c8 : a0 = 83
      · rw [if_pos c8] at H
        have c8b0 : (a0 == 83) = true := beq_iff_eq.mpr c8
        have c8b1 : (a0 != 83) = false := bne_eq_false_iff_eq.mpr c8
        clear c8
        simp only [Option.some.injEq, Prod.mk.injEq] at H
        obtain ⟨rfl, rfl, rfl, rfl⟩ := H
        go_enter Try.func94, Try.ntmps94
        go_wp2_with (first | ((with_reducible refine gate_dst (N := 2) rfl ?_); refine bx_ 2 #[.int .i64 0, .int .i64 0, .int .i64 0, .int .i64 0] 64 ?_; intro gb1543 hg w9 hbox hb; have BK1543 := Aside0.mk hbox; have GW1543 := gw_ w hg; have GE1543 := GW1543; replace HB := b1_ hb; clear hb hbox hg; have hcz10_0 := cz0_ BK1543; have hcz10_1 := cz1_ BK1543; have hcz10_2 := cz2_ BK1543; have hcz10_3 := cz3_ BK1543; have hfz10_0 := blk_frozen BK1543.out 0; have hfz10_1 := blk_frozen BK1543.out 1; have hfz10_2 := blk_frozen BK1543.out 2; have hfz10_3 := blk_frozen BK1543.out 3))
        refine bodyPost_ret (results_cell_row rfl _ _ gb1543 64 #[.int .i64 0, .int .i64 (-1), .int .i64 1, .int .i64 0] (0, 0) _ rfl (by (with_reducible repeat (first | refine blk_drewN ?_ _ | refine blk_drew ?_ | refine blk_alloc ?_ _)); refine blk_put (cs := #[.int .i64 0, .int .i64 (-1), .int .i64 1, .int .i64 0]) ?_ 3 _ rfl; (with_reducible repeat (first | refine blk_drewN ?_ _ | refine blk_drew ?_ | refine blk_alloc ?_ _)); refine blk_put (cs := #[.int .i64 0, .int .i64 (-1), .int .i64 0, .int .i64 0]) ?_ 2 _ rfl; (with_reducible repeat (first | refine blk_drewN ?_ _ | refine blk_drew ?_ | refine blk_alloc ?_ _)); refine blk_put (cs := #[.int .i64 0, .int .i64 0, .int .i64 0, .int .i64 0]) ?_ 1 _ rfl; (with_reducible repeat (first | refine blk_drewN ?_ _ | refine blk_drew ?_ | refine blk_alloc ?_ _)); refine blk_put (cs := #[.int .i64 0, .int .i64 0, .int .i64 0, .int .i64 0]) ?_ 0 _ rfl; (with_reducible repeat (first | refine blk_drewN ?_ _ | refine blk_drew ?_ | refine blk_alloc ?_ _)); exact BK1543.out) Try.underlying64 rfl (by kernel_rfl)) rfl ?_
        exact ⟨qb_, hB_⟩
      · rw [if_neg c8] at H
        have c8b0 : (a0 == 83) = false := beq_eq_false_iff_ne.mpr c8
        have c8b1 : (a0 != 83) = true := bne_iff_ne.mpr c8
        simp only [Option.some.injEq, Prod.mk.injEq] at H
        obtain ⟨rfl, rfl, rfl, rfl⟩ := H
        go_enter Try.func94, Try.ntmps94
        go_wp2_with (first | ((with_reducible refine gate_dst (N := 2) rfl ?_); refine bx_ 2 #[.int .i64 0, .int .i64 0, .int .i64 0, .int .i64 0] 64 ?_; intro gb1543 hg w11 hbox hb; have BK1543 := Aside0.mk hbox; have GW1543 := gw_ w hg; have GE1543 := GW1543; replace HB := b1_ hb; clear hb hbox hg; have hcz12_0 := cz0_ BK1543; have hcz12_1 := cz1_ BK1543; have hcz12_2 := cz2_ BK1543; have hcz12_3 := cz3_ BK1543; have hfz12_0 := blk_frozen BK1543.out 0; have hfz12_1 := blk_frozen BK1543.out 1; have hfz12_2 := blk_frozen BK1543.out 2; have hfz12_3 := blk_frozen BK1543.out 3))
        refine bodyPost_ret (results_cell_row rfl _ _ gb1543 64 #[.int .i64 0, .int .i64 1, .int .i64 (-1), .int .i64 0] (0, 0) _ rfl (by (with_reducible repeat (first | refine blk_drewN ?_ _ | refine blk_drew ?_ | refine blk_alloc ?_ _)); refine blk_put (cs := #[.int .i64 0, .int .i64 1, .int .i64 (-1), .int .i64 0]) ?_ 3 _ rfl; (with_reducible repeat (first | refine blk_drewN ?_ _ | refine blk_drew ?_ | refine blk_alloc ?_ _)); refine blk_put (cs := #[.int .i64 0, .int .i64 1, .int .i64 0, .int .i64 0]) ?_ 2 _ rfl; (with_reducible repeat (first | refine blk_drewN ?_ _ | refine blk_drew ?_ | refine blk_alloc ?_ _)); refine blk_put (cs := #[.int .i64 0, .int .i64 0, .int .i64 0, .int .i64 0]) ?_ 1 _ rfl; (with_reducible repeat (first | refine blk_drewN ?_ _ | refine blk_drew ?_ | refine blk_alloc ?_ _)); refine blk_put (cs := #[.int .i64 0, .int .i64 0, .int .i64 0, .int .i64 0]) ?_ 0 _ rfl; (with_reducible repeat (first | refine blk_drewN ?_ _ | refine blk_drew ?_ | refine blk_alloc ?_ _)); exact BK1543.out) Try.underlying64 rfl (by kernel_rfl)) rfl ?_
        exact ⟨qb_, hB_⟩
end Go.Proofs.Ytbdnellgioimbaa.A
end
section
namespace Go.Proofs.Ytbdnellgioimbaa.A
open Go.RowKit Go.Proofs.YtbdnellgioimbaaW.PrintWords Go.Proofs.YtbdnellgioimbaaW.PrintLast Go.Proofs.YtbdnellgioimbaaW.PrintMore
attribute [local go_sem] max2_int min2_int max_two min_two max_three min_three max_four min_four
set_option linter.unusedVariables false
set_option linter.unusedSimpArgs false
def impl_MatrixOf.l0 : Nat → ByteArray → Int → Int → Int → Int → Int → Option (Int × Int × Int × Int × Bool)
  | 0, _, _, _, _, _, _ => none
  | k + 1, x0, x5, x1547000, x1547001, x1547002, x1547003 => if x5 < (x0.size : Int) then (if 0 ≤ x5 then ((impl_letterMatrix.f (bt x0 x5)).bind fun bt1547 => ((impl_product.f bt1547.1 bt1547.2.1 bt1547.2.2.1 bt1547.2.2.2 x1547000 x1547001 x1547002 x1547003).bind fun bt1551 => (impl_MatrixOf.l0 k x0 (wrap64 (x5 + 1)) bt1551.1 bt1551.2.1 bt1551.2.2.1 bt1551.2.2.2))) else (none)) else (some (x1547000, x1547001, x1547002, x1547003, true))
def impl_MatrixOf.f (k : Nat) (a0 : ByteArray) : Option (Int × Int × Int × Int × Bool) := (impl_WordOk.f k a0).bind fun t1545 => (if t1545 = true then (impl_MatrixOf.l0 k a0 0 1 0 0 1) else (some (0, 0, 0, 0, false)))
theorem impl_MatrixOf.mono_l : ∀ k, (∀ y0 y1 y2 y3 y4 y5, LeO (impl_MatrixOf.l0 k y0 y1 y2 y3 y4 y5) (impl_MatrixOf.l0 (k + 1) y0 y1 y2 y3 y4 y5))
  | 0 => fun _ _ _ _ _ _ r h => by simp [impl_MatrixOf.l0] at h
  | k + 1 => by
    have ih0 := impl_MatrixOf.mono_l k
    · intro y0 y1 y2 y3 y4 y5
      unfold impl_MatrixOf.l0
      repeat' first|exact ih0 _ _ _ _ _ _|exact impl_WordOk.mono _ _|exact lo_|refine LeO.ite ?_ ?_|refine LeO.bind ?_ (fun _ => ?_)
theorem impl_MatrixOf.mono : ∀ a0 k, LeO (impl_MatrixOf.f k a0) (impl_MatrixOf.f (k + 1) a0) := by
  intro a0 k
  have ih0 := impl_MatrixOf.mono_l k
  unfold impl_MatrixOf.f
  repeat' first|exact ih0 _ _ _ _ _ _|exact impl_WordOk.mono _ _|exact lo_|refine LeO.ite ?_ ?_|refine LeO.bind ?_ (fun _ => ?_)
set_option maxHeartbeats 8000000 in
set_option maxRecDepth 100000 in
theorem impl_MatrixOf.calls (k : Nat) (a0 : ByteArray) (r1 : Int) (r2 : Int) (r3 : Int) (r4 : Int) (r5 : Bool) (w : World) (h : impl_MatrixOf.f k a0 = some (r1, r2, r3, r4, r5)) :
    Calls Try.prog 50 #[.string a0] w fun e w' => e = .returned (.tuple #[.agg #[.int .i64 r1, .int .i64 r2, .int .i64 r3, .int .i64 r4], .bool r5]) ∧ Below w.heap.size w w' := by
  have hu64 := Try.underlying64
  have HB := Aside0.mk (Below.refl w.heap.size w)
  have H := h
  unfold impl_MatrixOf.f at H
  clear h
  obtain ⟨t1545, A2, H⟩ := bi_ H
  by_cases c3 : t1545 = true
  · subst c3
    rw [if_pos rfl] at H
    have H' := Aside0.mk H
    clear H
    go_enter Try.func50, Try.ntmps50
    go_wp2_with (first | ((with_reducible refine gate_dst (N := 2) rfl ?_); refine bx_ 2 #[.int .i64 0, .int .i64 0, .int .i64 0, .int .i64 0] 64 ?_; intro gb1544 hg w4 hbox hb; have BK1544 := Aside0.mk hbox; have GW1544 := gw_ w hg; have GE1544 := GW1544; replace HB := b1_ hb; clear hb hbox hg) | ((with_reducible refine gate_callee (f := 92) rfl ?_); refine gL_ (some 7) Try.func92 #[.string a0] rfl qa_ ?_; (with_reducible refine (impl_WordOk.calls k a0 true _ A2.out).mono ?_); rintro e w5 ⟨rfl, hb⟩; refine ⟨_, rfl, ?_⟩; replace BK1544 := bb_ BK1544 hb; replace HB := b1_ hb; clear hb) | ((with_reducible refine gate_dst (N := 4) rfl ?_); refine bx_ 4 #[.int .i64 0, .int .i64 0, .int .i64 0, .int .i64 0] 64 ?_; intro gb1546 hg w6 hbox hb; have BK1546 := Aside0.mk hbox; have GW1546 := gw_ w hg; have GE1546 := GW1546; replace HB := b1_ hb; have NB1544_1546 := gN_ BK1544 hg; have NB1546_1544 := gP_ BK1544 hg; replace BK1544 := bb_ BK1544 hb; clear hb hbox hg; have hnb7 := NB1546_1544.out; have hnc7 := NB1544_1546.out; have hcz8_0 := cz0_ BK1546; have hcz8_1 := cz1_ BK1546; have hcz8_2 := cz2_ BK1546; have hcz8_3 := cz3_ BK1546; have hfz8_0 := blk_frozen BK1546.out 0; have hfz8_1 := blk_frozen BK1546.out 1; have hfz8_2 := blk_frozen BK1546.out 2; have hfz8_3 := blk_frozen BK1546.out 3))
    go_loopg [5] k (fun kq v5 w' => ∃ (x5_1 : Int) (x1547000_1 : Int) (x1547001_1 : Int) (x1547002_1 : Int) (x1547003_1 : Int), v5 = .int .i64 x5_1 ∧ Aside0 (impl_MatrixOf.l0 kq a0 x5_1 x1547000_1 x1547001_1 x1547002_1 x1547003_1 = some (r1, r2, r3, r4, r5)) ∧ Aside0 (kq ≤ k) ∧ Aside0 (w'.heap[gb1544]? = some (.cells #[.int .i64 0, .int .i64 0, .int .i64 0, .int .i64 0] 64 (0, 0))) ∧ Aside0 (w'.heap[gb1546]? = some (.cells #[.int .i64 x1547000_1, .int .i64 x1547001_1, .int .i64 x1547002_1, .int .i64 x1547003_1] 64 (0, 0))) ∧ Aside0 (Below w.heap.size w w'))
    case atStart => exact ⟨(0), (1), (0), (0), (1), qc_, H', ⟨Nat.le_refl _⟩, ⟨by (with_reducible repeat (first | refine blk_drewN ?_ _ | refine blk_drew ?_ | refine blk_alloc ?_ _)); refine blk_far ?_ NB1544_1546.out _; (with_reducible repeat (first | refine blk_drewN ?_ _ | refine blk_drew ?_ | refine blk_alloc ?_ _)); refine blk_far ?_ NB1544_1546.out _; (with_reducible repeat (first | refine blk_drewN ?_ _ | refine blk_drew ?_ | refine blk_alloc ?_ _)); refine blk_far ?_ NB1544_1546.out _; (with_reducible repeat (first | refine blk_drewN ?_ _ | refine blk_drew ?_ | refine blk_alloc ?_ _)); refine blk_far ?_ NB1544_1546.out _; (with_reducible repeat (first | refine blk_drewN ?_ _ | refine blk_drew ?_ | refine blk_alloc ?_ _)); exact BK1544.out⟩, ⟨by (with_reducible repeat (first | refine blk_drewN ?_ _ | refine blk_drew ?_ | refine blk_alloc ?_ _)); refine blk_put (cs := #[.int .i64 1, .int .i64 0, .int .i64 0, .int .i64 0]) ?_ 3 _ rfl; (with_reducible repeat (first | refine blk_drewN ?_ _ | refine blk_drew ?_ | refine blk_alloc ?_ _)); refine blk_put (cs := #[.int .i64 1, .int .i64 0, .int .i64 0, .int .i64 0]) ?_ 2 _ rfl; (with_reducible repeat (first | refine blk_drewN ?_ _ | refine blk_drew ?_ | refine blk_alloc ?_ _)); refine blk_put (cs := #[.int .i64 1, .int .i64 0, .int .i64 0, .int .i64 0]) ?_ 1 _ rfl; (with_reducible repeat (first | refine blk_drewN ?_ _ | refine blk_drew ?_ | refine blk_alloc ?_ _)); refine blk_put (cs := #[.int .i64 0, .int .i64 0, .int .i64 0, .int .i64 0]) ?_ 0 _ rfl; (with_reducible repeat (first | refine blk_drewN ?_ _ | refine blk_drew ?_ | refine blk_alloc ?_ _)); exact BK1546.out⟩, ⟨hB_⟩⟩
    case round =>
      clear H'
      obtain ⟨x5_1, x1547000_1, x1547001_1, x1547002_1, x1547003_1, rfl, HA, HK1, BK1544, BK1546, HB⟩ := hrel
      cases gk with
      | zero => exact absurd HA.out (by simp [impl_MatrixOf.l0])
      | succ k1 =>
        have H := HA.out
        clear HA
        simp only [impl_MatrixOf.l0] at H
        by_cases c9 : x5_1 < (a0.size : Int)
        · rw [if_pos c9] at H
          have c9b0 := decide_eq_true c9
          clear c9
          have c10 := cp_ H
          replace H := ca_ H
          have c10b0 := decide_eq_true c10
          clear c10
          obtain ⟨⟨t1547, t1548, t1549, t1550⟩, A12, H⟩ := bi_ H
          try dsimp only at H
          obtain ⟨⟨t1551, t1552, t1553, t1554⟩, A13, H⟩ := bi_ H
          try dsimp only at H
          have H' := Aside0.mk H
          clear H
          try go_wp2
          replace BK1544 := Aside0.mk (blk_drew BK1544.out)
          replace BK1546 := Aside0.mk (blk_drew BK1546.out)
          replace HB := Aside0.mk (below_drew1 HB.out)
          have p11 : 0 ≤ (x5_1 : Int) := of_decide_eq_true qe_
          have q11 : x5_1 < (a0.size : Int) := of_decide_eq_true qe_
          have hx11 := bt_at a0 x5_1
          replace p11 := eq_true p11
          replace q11 := eq_true q11
          refine start_ (n := 7) (S := fun w' => w'.cell? ⟨gb1546, 0, none⟩ = some (.int .i64 x1547000_1) ∧ w'.cell? ⟨gb1546, 1, none⟩ = some (.int .i64 x1547001_1) ∧ w'.cell? ⟨gb1546, 2, none⟩ = some (.int .i64 x1547002_1) ∧ w'.cell? ⟨gb1546, 3, none⟩ = some (.int .i64 x1547003_1)) (ds := [6]) (bl_ 7 0) (by kernel_rfl) rfl (by kernel_rfl) ⟨cz0_ BK1546, cz1_ BK1546, cz2_ BK1546, cz3_ BK1546⟩ (fun hHeld => ?_)
          generalize wr.drew = w14 at BK1544 BK1546 HB hHeld ⊢
          refine pure_ (i := 0) (N := some 17) (v := ?_) (a' := ?_) (bl_ 7 1) rfl rfl (by kernel_rfl) (fun _ _ _ h => h) (Or.inl ⟨by rfl, ?_⟩) ?_ ?_
          rotate_left
          · intro w'
            go_simp
            with_reducible rfl
          rotate_left
          · simp only [Act.put, List.setIfInBounds_toArray, List.set_cons_zero, List.set_cons_succ, i64_w, i32_w]
            rfl
          refine pure_ (i := 1) (N := some 18) (v := ?_) (a' := ?_) (bl_ 7 3) rfl rfl (by kernel_rfl) (fun _ _ _ h => h) (Or.inl ⟨by rfl, ?_⟩) ?_ ?_
          rotate_left
          · intro w'
            go_simp
            with_reducible rfl
          rotate_left
          · simp only [Act.put, List.setIfInBounds_toArray, List.set_cons_zero, List.set_cons_succ, i64_w, i32_w]
            rfl
          refine take_ (i := 2) (N := some 19) (v := ?_) (a' := ?_) (bl_ 7 7) rfl rfl (by kernel_rfl) (fun _ _ _ h => h) (Or.inl ⟨by rfl, ?_⟩) hHeld ?_ ?_
          rotate_left
          · rintro w' ⟨s0, s1, s2, s3⟩
            go_simp
            with_reducible rfl
          rotate_left
          · simp only [Act.put, List.setIfInBounds_toArray, List.set_cons_zero, List.set_cons_succ, i64_w, i32_w]
            rfl
          refine take_ (i := 4) (N := some 21) (v := ?_) (a' := ?_) (bl_ 7 23) rfl rfl (by kernel_rfl) (fun _ _ _ h => h) (Or.inl ⟨by rfl, ?_⟩) hHeld ?_ ?_
          rotate_left
          · rintro w' ⟨s0, s1, s2, s3⟩
            go_simp
            with_reducible rfl
          rotate_left
          · simp only [Act.put, List.setIfInBounds_toArray, List.set_cons_zero, List.set_cons_succ, i64_w, i32_w]
            rfl
          refine one_ (i := 3) (N := some 20) (bl_ 7 31) rfl rfl (by kernel_rfl) (by decide) (fun K hK => ?_)
          refine gO_ Try.func94 #[.int .u8 (bt a0 x5_1)] (by rfl) rfl rfl qa_ ?_
          with_reducible refine (impl_letterMatrix.calls (bt a0 x5_1) t1547 t1548 t1549 t1550 _ A12.out).mono ?_
          rintro e w15 ⟨rfl, hb⟩
          refine ⟨_, rfl, ?_⟩
          replace BK1544 := bb_ BK1544 hb
          replace BK1546 := bb_ BK1546 hb
          replace HB := b1_ hb
          clear hb
          refine hK.out _ _ ⟨cz0_ BK1546, cz1_ BK1546, cz2_ BK1546, cz3_ BK1546⟩ (fun hHeld => ?_)
          clear hK K
          refine no_ (some 20) ?_
          refine one_ (i := 5) (N := some 22) (bl_ 7 63) rfl rfl (by kernel_rfl) (by decide) (fun K hK => ?_)
          refine gO_ Try.func93 #[.agg #[.int .i64 t1547, .int .i64 t1548, .int .i64 t1549, .int .i64 t1550], .agg #[.int .i64 x1547000_1, .int .i64 x1547001_1, .int .i64 x1547002_1, .int .i64 x1547003_1]] (by rfl) rfl rfl qa_ ?_
          with_reducible refine (impl_product.calls t1547 t1548 t1549 t1550 x1547000_1 x1547001_1 x1547002_1 x1547003_1 t1551 t1552 t1553 t1554 _ A13.out).mono ?_
          rintro e w16 ⟨rfl, hb⟩
          refine ⟨_, rfl, ?_⟩
          replace BK1544 := bb_ BK1544 hb
          replace BK1546 := bb_ BK1546 hb
          replace HB := b1_ hb
          clear hb
          refine hK.out _ _ ⟨cz0_ BK1546, cz1_ BK1546, cz2_ BK1546, cz3_ BK1546⟩ (fun hHeld => ?_)
          clear hK K
          refine no_ (some 22) ?_
          refine last_ (i := 6) (N := none) (bl_ 7 127) rfl rfl (by kernel_rfl) (by decide) (fun K hK => ?_)
          have hs17 : w16.cell? ⟨gb1546, 0, none⟩ = some (.int .i64 x1547000_1) := cz0_ BK1546
          have hfs17 := blk_frozen BK1546.out 0
          have hns17_0 := NB1544_1546.out
          have hms17_0 := NB1546_1544.out
          have hs18 : w16.cell? ⟨gb1546, 1, none⟩ = some (.int .i64 x1547001_1) := cz1_ BK1546
          have hfs18 := blk_frozen BK1546.out 1
          have hns18_0 := NB1544_1546.out
          have hms18_0 := NB1546_1544.out
          have hs19 : w16.cell? ⟨gb1546, 2, none⟩ = some (.int .i64 x1547002_1) := cz2_ BK1546
          have hfs19 := blk_frozen BK1546.out 2
          have hns19_0 := NB1544_1546.out
          have hms19_0 := NB1546_1544.out
          have hs20 : w16.cell? ⟨gb1546, 3, none⟩ = some (.int .i64 x1547003_1) := cz3_ BK1546
          have hfs20 := blk_frozen BK1546.out 3
          have hns20_0 := NB1544_1546.out
          have hms20_0 := NB1546_1544.out
          refine skip_ (w1 := ?_) (by rfl) rfl ?_ ?_
          rotate_left
          · go_simp
            rfl
          refine hK.out _ _ ?_
          clear hK K
          refine done_ (by kernel_rfl) ?_
          try go_wp2
          go_roundg k1
          case measure => have := HK1.out; omega
          case rel => exact ⟨(wrap64 (x5_1 + 1)), (t1551), (t1552), (t1553), (t1554), qc_, H', ⟨by have := HK1.out; omega⟩, ⟨by (with_reducible repeat (first | refine blk_drewN ?_ _ | refine blk_drew ?_ | refine blk_alloc ?_ _)); refine blk_far ?_ NB1544_1546.out _; (with_reducible repeat (first | refine blk_drewN ?_ _ | refine blk_drew ?_ | refine blk_alloc ?_ _)); refine blk_far ?_ NB1544_1546.out _; (with_reducible repeat (first | refine blk_drewN ?_ _ | refine blk_drew ?_ | refine blk_alloc ?_ _)); refine blk_far ?_ NB1544_1546.out _; (with_reducible repeat (first | refine blk_drewN ?_ _ | refine blk_drew ?_ | refine blk_alloc ?_ _)); refine blk_far ?_ NB1544_1546.out _; (with_reducible repeat (first | refine blk_drewN ?_ _ | refine blk_drew ?_ | refine blk_alloc ?_ _)); exact BK1544.out⟩, ⟨by (with_reducible repeat (first | refine blk_drewN ?_ _ | refine blk_drew ?_ | refine blk_alloc ?_ _)); refine blk_put (cs := #[.int .i64 t1551, .int .i64 t1552, .int .i64 t1553, .int .i64 x1547003_1]) ?_ 3 _ rfl; (with_reducible repeat (first | refine blk_drewN ?_ _ | refine blk_drew ?_ | refine blk_alloc ?_ _)); refine blk_put (cs := #[.int .i64 t1551, .int .i64 t1552, .int .i64 x1547002_1, .int .i64 x1547003_1]) ?_ 2 _ rfl; (with_reducible repeat (first | refine blk_drewN ?_ _ | refine blk_drew ?_ | refine blk_alloc ?_ _)); refine blk_put (cs := #[.int .i64 t1551, .int .i64 x1547001_1, .int .i64 x1547002_1, .int .i64 x1547003_1]) ?_ 1 _ rfl; (with_reducible repeat (first | refine blk_drewN ?_ _ | refine blk_drew ?_ | refine blk_alloc ?_ _)); refine blk_put (cs := #[.int .i64 x1547000_1, .int .i64 x1547001_1, .int .i64 x1547002_1, .int .i64 x1547003_1]) ?_ 0 _ rfl; (with_reducible repeat (first | refine blk_drewN ?_ _ | refine blk_drew ?_ | refine blk_alloc ?_ _)); exact BK1546.out⟩, ⟨hB_⟩⟩
        · rw [if_neg c9] at H
          have c9b0 := decide_eq_false c9
          clear c9
          simp only [Option.some.injEq, Prod.mk.injEq] at H
          obtain ⟨rfl, rfl, rfl, rfl, rfl⟩ := H
          have hnb21 := NB1546_1544.out
          have hnc21 := NB1544_1546.out
          have hcz22_0 := cz0_ BK1546
          have hcz22_1 := cz1_ BK1546
          have hcz22_2 := cz2_ BK1546
          have hcz22_3 := cz3_ BK1546
          have hfz22_0 := blk_frozen BK1546.out 0
          have hfz22_1 := blk_frozen BK1546.out 1
          have hfz22_2 := blk_frozen BK1546.out 2
          have hfz22_3 := blk_frozen BK1546.out 3
          have hcz23_0 := cz0_ BK1544
          have hcz23_1 := cz1_ BK1544
          have hcz23_2 := cz2_ BK1544
          have hcz23_3 := cz3_ BK1544
          have hfz23_0 := blk_frozen BK1544.out 0
          have hfz23_1 := blk_frozen BK1544.out 1
          have hfz23_2 := blk_frozen BK1544.out 2
          have hfz23_3 := blk_frozen BK1544.out 3
          go_wp2
          refine bodyPost_ret (results_ct rfl _ _ gb1544 64 #[.int .i64 x1547000_1, .int .i64 x1547001_1, .int .i64 x1547002_1, .int .i64 x1547003_1] (0, 0) _ rfl (by (with_reducible repeat (first | refine blk_drewN ?_ _ | refine blk_drew ?_ | refine blk_alloc ?_ _)); refine blk_put (cs := #[.int .i64 x1547000_1, .int .i64 x1547001_1, .int .i64 x1547002_1, .int .i64 0]) ?_ 3 _ rfl; (with_reducible repeat (first | refine blk_drewN ?_ _ | refine blk_drew ?_ | refine blk_alloc ?_ _)); refine blk_put (cs := #[.int .i64 x1547000_1, .int .i64 x1547001_1, .int .i64 0, .int .i64 0]) ?_ 2 _ rfl; (with_reducible repeat (first | refine blk_drewN ?_ _ | refine blk_drew ?_ | refine blk_alloc ?_ _)); refine blk_put (cs := #[.int .i64 x1547000_1, .int .i64 0, .int .i64 0, .int .i64 0]) ?_ 1 _ rfl; (with_reducible repeat (first | refine blk_drewN ?_ _ | refine blk_drew ?_ | refine blk_alloc ?_ _)); refine blk_put (cs := #[.int .i64 0, .int .i64 0, .int .i64 0, .int .i64 0]) ?_ 0 _ rfl; (with_reducible repeat (first | refine blk_drewN ?_ _ | refine blk_drew ?_ | refine blk_alloc ?_ _)); exact BK1544.out) Try.underlying64 rfl (by kernel_rfl)) rfl ?_
          exact ⟨qb_, hB_⟩
  · replace c3 := Bool.eq_false_iff.mpr c3
    subst c3
    have H1 : (some (0, 0, 0, 0, false)) = some (r1, r2, r3, r4, r5) := by rw [if_neg (show ¬ (false = true) by decide)] at H; exact H
    clear H
    have H := H1
    clear H1
    simp only [Option.some.injEq, Prod.mk.injEq] at H
    obtain ⟨rfl, rfl, rfl, rfl, rfl⟩ := H
    go_enter Try.func50, Try.ntmps50
    go_wp2_with (first | ((with_reducible refine gate_dst (N := 2) rfl ?_); refine bx_ 2 #[.int .i64 0, .int .i64 0, .int .i64 0, .int .i64 0] 64 ?_; intro gb1544 hg w24 hbox hb; have BK1544 := Aside0.mk hbox; have GW1544 := gw_ w hg; have GE1544 := GW1544; replace HB := b1_ hb; clear hb hbox hg) | ((with_reducible refine gate_callee (f := 92) rfl ?_); refine gL_ (some 7) Try.func92 #[.string a0] rfl qa_ ?_; (with_reducible refine (impl_WordOk.calls k a0 false _ A2.out).mono ?_); rintro e w25 ⟨rfl, hb⟩; refine ⟨_, rfl, ?_⟩; replace BK1544 := bb_ BK1544 hb; replace HB := b1_ hb; clear hb; have hcz26_0 := cz0_ BK1544; have hcz26_1 := cz1_ BK1544; have hcz26_2 := cz2_ BK1544; have hcz26_3 := cz3_ BK1544; have hfz26_0 := blk_frozen BK1544.out 0; have hfz26_1 := blk_frozen BK1544.out 1; have hfz26_2 := blk_frozen BK1544.out 2; have hfz26_3 := blk_frozen BK1544.out 3))
    refine bodyPost_ret (results_ct rfl _ _ gb1544 64 #[.int .i64 0, .int .i64 0, .int .i64 0, .int .i64 0] (0, 0) _ rfl (by (with_reducible repeat (first | refine blk_drewN ?_ _ | refine blk_drew ?_ | refine blk_alloc ?_ _)); refine blk_put (cs := #[.int .i64 0, .int .i64 0, .int .i64 0, .int .i64 0]) ?_ 3 _ rfl; (with_reducible repeat (first | refine blk_drewN ?_ _ | refine blk_drew ?_ | refine blk_alloc ?_ _)); refine blk_put (cs := #[.int .i64 0, .int .i64 0, .int .i64 0, .int .i64 0]) ?_ 2 _ rfl; (with_reducible repeat (first | refine blk_drewN ?_ _ | refine blk_drew ?_ | refine blk_alloc ?_ _)); refine blk_put (cs := #[.int .i64 0, .int .i64 0, .int .i64 0, .int .i64 0]) ?_ 1 _ rfl; (with_reducible repeat (first | refine blk_drewN ?_ _ | refine blk_drew ?_ | refine blk_alloc ?_ _)); refine blk_put (cs := #[.int .i64 0, .int .i64 0, .int .i64 0, .int .i64 0]) ?_ 0 _ rfl; (with_reducible repeat (first | refine blk_drewN ?_ _ | refine blk_drew ?_ | refine blk_alloc ?_ _)); exact BK1544.out) Try.underlying64 rfl (by kernel_rfl)) rfl ?_
    exact ⟨qb_, hB_⟩
end Go.Proofs.Ytbdnellgioimbaa.A
end
section
namespace Go.Proofs.Ytbdnellgioimbaa.A
open Go.RowKit Go.Proofs.YtbdnellgioimbaaW.PrintWords Go.Proofs.YtbdnellgioimbaaW.PrintLast Go.Proofs.YtbdnellgioimbaaW.PrintMore
attribute [local go_sem] max2_int min2_int max_two min_two max_three min_three max_four min_four
set_option linter.unusedVariables false
set_option linter.unusedSimpArgs false
def laws_same.l0 : Nat → List Int → List Int → Int → Int → Option (Bool)
  | 0, _, _, _, _ => none
  | k + 1, x1, x12, x13, x14 => if x14 < x13 then (if 0 ≤ x14 then (if x14 < (x12.length : Int) then (if x14 < (x1.length : Int) then (if (rd x12 x14) = (rd x1 x14) then (laws_same.l0 k x1 x12 x13 (wrap64 (x14 + 1))) else (some false)) else (none)) else (none)) else (none)) else (some true)
def laws_same.f (k : Nat) (l0 : List Int) (l1 : List Int) : Option (Bool) := if (l0.length : Int) = (l1.length : Int) then (laws_same.l0 k l1 l0 (l0.length : Int) 0) else (some false)
theorem laws_same.mono_l : ∀ k, (∀ y0 y1 y2 y3, LeO (laws_same.l0 k y0 y1 y2 y3) (laws_same.l0 (k + 1) y0 y1 y2 y3))
  | 0 => fun _ _ _ _ r h => by simp [laws_same.l0] at h
  | k + 1 => by
    have ih0 := laws_same.mono_l k
    · intro y0 y1 y2 y3
      unfold laws_same.l0
      repeat' first|exact ih0 _ _ _ _|exact lo_|refine LeO.ite ?_ ?_|refine LeO.bind ?_ (fun _ => ?_)
theorem laws_same.mono : ∀ a0 a1 k, LeO (laws_same.f k a0 a1) (laws_same.f (k + 1) a0 a1) := by
  intro a0 a1 k
  have ih0 := laws_same.mono_l k
  unfold laws_same.f
  repeat' first|exact ih0 _ _ _ _|exact lo_|refine LeO.ite ?_ ?_|refine LeO.bind ?_ (fun _ => ?_)
set_option maxHeartbeats 8000000 in
set_option maxRecDepth 100000 in
theorem laws_same.calls (k : Nat) (A0 : Option Addr) (c0 : Nat) (l0 : List Int) (A1 : Option Addr) (c1 : Nat) (l1 : List Int) (r : Bool) (w : World) (hr0 : Kd.C (Kd.int .i64) w A0 l0.length l0) (hc0 : l0.length ≤ c0) (hr1 : Kd.C (Kd.int .i64) w A1 l1.length l1) (hc1 : l1.length ≤ c1) (h : laws_same.f k l0 l1 = some r) :
    Calls Try.prog 54 #[.slice A0 l0.length c0, .slice A1 l1.length c1] w fun e w' => e = .returned (.bool r) ∧ Drawn0 w w' := by
  have HR0 := Aside0.mk hr0
  have HC0 := Aside0.mk hc0
  clear hr0 hc0
  have HR1 := Aside0.mk hr1
  have HC1 := Aside0.mk hc1
  clear hr1 hc1
  have H := h
  unfold laws_same.f at H
  clear h
  by_cases c3 : (l0.length : Int) = (l1.length : Int)
  · rw [if_pos c3] at H
    have c3b0 : ((l0.length : Int) == (l1.length : Int)) = true := beq_iff_eq.mpr c3
    have c3b1 : ((l0.length : Int) != (l1.length : Int)) = false := bne_eq_false_iff_eq.mpr c3
    have c3b2 : (l0.length == l1.length) = true := by first | simpa using c3 | (simp at c3 ⊢; omega)
    clear c3
    have H' := Aside0.mk H
    clear H
    go_enter Try.func54, Try.ntmps54
    go_wp2
    go_loopg [14] k (fun kq v14 w' => ∃ (x14_1 : Int), v14 = .int .i64 x14_1 ∧ Aside0 (laws_same.l0 kq l1 l0 (l0.length : Int) x14_1 = some r) ∧ Aside0 (kq ≤ k) ∧ Drawn0 w w')
    case atStart => exact ⟨(0), qc_, H', ⟨Nat.le_refl _⟩, by repeat (first | exact Drawn0.refl _ | apply Drawn0.step)⟩
    case round =>
      clear H'
      obtain ⟨x14_1, rfl, HA, HK1, ⟨m1, rfl⟩⟩ := hrel
      cases gk with
      | zero => exact absurd HA.out (by simp [laws_same.l0])
      | succ k1 =>
        have H := HA.out
        clear HA
        simp only [laws_same.l0] at H
        by_cases c4 : x14_1 < (l0.length : Int)
        · rw [if_pos c4] at H
          have c4b0 := decide_eq_true c4
          clear c4
          have c5 := cp_ H
          replace H := ca_ H
          have c5b0 := decide_eq_true c5
          clear c5
          have c6 := cp_ H
          replace H := ca_ H
          have c6b0 := decide_eq_true c6
          clear c6
          have c7 := cp_ H
          replace H := ca_ H
          have c7b0 := decide_eq_true c7
          clear c7
          by_cases c8 : (rd l0 x14_1) = (rd l1 x14_1)
          · rw [if_pos c8] at H
            have c8b0 : ((rd l0 x14_1) == (rd l1 x14_1)) = true := beq_iff_eq.mpr c8
            have c8b1 : ((rd l0 x14_1) != (rd l1 x14_1)) = false := bne_eq_false_iff_eq.mpr c8
            clear c8
            have H' := Aside0.mk H
            clear H
            have p1555 : 0 ≤ (x14_1 : Int) := of_decide_eq_true qe_
            have q1555 : x14_1 < (l0.length : Int) := of_decide_eq_true qe_
            obtain ⟨ad1555, e1555, hx1555_0⟩ := Kd.at_int HR0.out x14_1 p1555 q1555
            cases e1555
            replace p1555 := eq_true p1555
            replace q1555 := eq_true q1555
            have p1556 : 0 ≤ (x14_1 : Int) := of_decide_eq_true qe_
            have q1556 : x14_1 < (l1.length : Int) := of_decide_eq_true qe_
            obtain ⟨ad1556, e1556, hx1556_0⟩ := Kd.at_int HR1.out x14_1 p1556 q1556
            cases e1556
            replace p1556 := eq_true p1556
            replace q1556 := eq_true q1556
            go_wp2
            go_roundg k1
            case measure => have := HK1.out; omega
            case rel => exact ⟨(wrap64 (x14_1 + 1)), qc_, H', ⟨by have := HK1.out; omega⟩, by repeat (first | exact Drawn0.refl _ | apply Drawn0.step)⟩
          · rw [if_neg c8] at H
            have c8b0 : ((rd l0 x14_1) == (rd l1 x14_1)) = false := beq_eq_false_iff_ne.mpr c8
            have c8b1 : ((rd l0 x14_1) != (rd l1 x14_1)) = true := bne_iff_ne.mpr c8
            obtain rfl := Option.some.inj H
            have p1555 : 0 ≤ (x14_1 : Int) := of_decide_eq_true qe_
            have q1555 : x14_1 < (l0.length : Int) := of_decide_eq_true qe_
            obtain ⟨ad1555, e1555, hx1555_0⟩ := Kd.at_int HR0.out x14_1 p1555 q1555
            cases e1555
            replace p1555 := eq_true p1555
            replace q1555 := eq_true q1555
            have p1556 : 0 ≤ (x14_1 : Int) := of_decide_eq_true qe_
            have q1556 : x14_1 < (l1.length : Int) := of_decide_eq_true qe_
            obtain ⟨ad1556, e1556, hx1556_0⟩ := Kd.at_int HR1.out x14_1 p1556 q1556
            cases e1556
            replace p1556 := eq_true p1556
            replace q1556 := eq_true q1556
            go_wp2
            go_ret
            exact ⟨qc_, by repeat (first | exact Drawn0.refl _ | apply Drawn0.step)⟩
        · rw [if_neg c4] at H
          have c4b0 := decide_eq_false c4
          clear c4
          obtain rfl := Option.some.inj H
          go_wp2
          go_ret
          exact ⟨qc_, by repeat (first | exact Drawn0.refl _ | apply Drawn0.step)⟩
  · rw [if_neg c3] at H
    have c3b0 : ((l0.length : Int) == (l1.length : Int)) = false := beq_eq_false_iff_ne.mpr c3
    have c3b1 : ((l0.length : Int) != (l1.length : Int)) = true := bne_iff_ne.mpr c3
    have c3b2 : (l0.length == l1.length) = false := by first | simpa using c3 | (simp at c3 ⊢; omega)
    obtain rfl := Option.some.inj H
    go_enter Try.func54, Try.ntmps54
    go_wp2
    go_ret
    exact ⟨qc_, by repeat (first | exact Drawn0.refl _ | apply Drawn0.step)⟩
end Go.Proofs.Ytbdnellgioimbaa.A
end
section
namespace Go.Proofs.Ytbdnellgioimbaa.A
open Go.RowKit Go.Proofs.YtbdnellgioimbaaW.PrintWords Go.Proofs.YtbdnellgioimbaaW.PrintLast Go.Proofs.YtbdnellgioimbaaW.PrintMore
attribute [local go_sem] max2_int min2_int max_two min_two max_three min_three max_four min_four
set_option linter.unusedVariables false
set_option linter.unusedSimpArgs false
mutual
def laws_sorted.l0 : Nat → List Int → List Int → Int → Int → Option (List Int)
  | 0, _, _, _, _ => none
  | k + 1, x3, x8, x9, x10 => if x10 < x9 then (if 0 ≤ x10 then (if x10 < (x8.length : Int) then (if x3.length < 17592186044416 then ((some (x3 ++ [0] : List Int)).bind fun y1561 => (laws_sorted.l1 k y1561 (rd x8 x10) (wrap64 ((y1561.length : Int) - 1)) x8 x9 x10)) else (none)) else (none)) else (none)) else (some x3)
def laws_sorted.l1 : Nat → List Int → Int → Int → List Int → Int → Int → Option (List Int)
  | 0, _, _, _, _, _, _ => none
  | k + 1, x3, x5, x6, x8, x9, x10 => if x6 > 0 then (if 0 ≤ (wrap64 (x6 - 1)) then (if (wrap64 (x6 - 1)) < (x3.length : Int) then (if (rd x3 (wrap64 (x6 - 1))) < x5 then (if 0 ≤ x6 then (if x6 < (x3.length : Int) then (laws_sorted.l1 k (x3.set (x6 : Int).toNat (rd x3 (wrap64 (x6 - 1)))) x5 (wrap64 (x6 - 1)) x8 x9 x10) else (none)) else (none)) else (if 0 ≤ x6 then (if x6 < (x3.length : Int) then (laws_sorted.l0 k (x3.set (x6 : Int).toNat x5) x8 x9 (wrap64 (x10 + 1))) else (none)) else (none))) else (none)) else (none)) else (if 0 ≤ x6 then (if x6 < (x3.length : Int) then (laws_sorted.l0 k (x3.set (x6 : Int).toNat x5) x8 x9 (wrap64 (x10 + 1))) else (none)) else (none))
end
def laws_sorted.f (k : Nat) (l0 : List Int) : Option (List Int) := laws_sorted.l0 k (([] : List Int)) l0 (l0.length : Int) 0
theorem laws_sorted.mono_l : ∀ k, (∀ y0 y1 y2 y3, LeO (laws_sorted.l0 k y0 y1 y2 y3) (laws_sorted.l0 (k + 1) y0 y1 y2 y3)) ∧ (∀ y0 y1 y2 y3 y4 y5, LeO (laws_sorted.l1 k y0 y1 y2 y3 y4 y5) (laws_sorted.l1 (k + 1) y0 y1 y2 y3 y4 y5))
  | 0 => ⟨fun _ _ _ _ r h => by simp [laws_sorted.l0] at h, fun _ _ _ _ _ _ r h => by simp [laws_sorted.l1] at h⟩
  | k + 1 => by
    obtain ⟨ih0, ih1⟩ := laws_sorted.mono_l k
    refine ⟨?_, ?_⟩
    · intro y0 y1 y2 y3
      unfold laws_sorted.l0
      repeat' first|exact ih0 _ _ _ _|exact ih1 _ _ _ _ _ _|exact lo_|refine LeO.ite ?_ ?_|refine LeO.bind ?_ (fun _ => ?_)
    · intro y0 y1 y2 y3 y4 y5
      unfold laws_sorted.l1
      repeat' first|exact ih0 _ _ _ _|exact ih1 _ _ _ _ _ _|exact lo_|refine LeO.ite ?_ ?_|refine LeO.bind ?_ (fun _ => ?_)
theorem laws_sorted.mono : ∀ a0 k, LeO (laws_sorted.f k a0) (laws_sorted.f (k + 1) a0) := by
  intro a0 k
  obtain ⟨ih0, ih1⟩ := laws_sorted.mono_l k
  unfold laws_sorted.f
  repeat' first|exact ih0 _ _ _ _|exact ih1 _ _ _ _ _ _|exact lo_|refine LeO.ite ?_ ?_|refine LeO.bind ?_ (fun _ => ?_)
set_option maxHeartbeats 8000000 in
set_option maxRecDepth 100000 in
theorem laws_sorted.calls (k : Nat) (A0 : Option Addr) (c0 : Nat) (l0 : List Int) (r : List Int) (w : World) (hr0 : Kd.C (Kd.int .i64) w A0 l0.length l0) (hc0 : l0.length ≤ c0) (h : laws_sorted.f k l0 = some r) :
    Calls Try.prog 97 #[.slice A0 l0.length c0] w fun e w' => ∃ v0_ : Value, e = .returned (v0_) ∧ Kd.R (Kd.int .i64) 3 w' w.heap.size (fun _ => True) v0_ r ∧ Below w.heap.size w w' := by
  have HR0 := Aside0.mk hr0
  have HC0 := Aside0.mk hc0
  clear hr0 hc0
  have HB := Aside0.mk (Below.refl w.heap.size w)
  have H := h
  unfold laws_sorted.f at H
  clear h
  obtain ⟨y1557, hy1557⟩ : ∃ y_ : List Int, y_ = (([] : List Int)) := ⟨_, rfl⟩
  replace H : (laws_sorted.l0 k y1557 l0 (l0.length : Int) 0) = some r := by first | (rw [hy1557]; exact H) | exact H
  have Ny1557 := Aside0.mk hy1557
  clear hy1557
  have H' := Aside0.mk H
  clear H
  go_enter Try.func97, Try.ntmps97
  go_wp2_with (first | ((with_reducible refine gate_dst (N := 7) rfl ?_); refine Kd.R_lit (Kd.int .i64) _ 3 ?hg (N := 7) ?hd (xs := ([] : List Int)) (inner := []) (ok := fun _ => True) (okp := fun _ => True) ?hr ?hp (fun _ hk => hk) trivial (Below.refl _ _) (Nat.le_refl _) (by simp) ?_; (case hd => rfl); (case hg => rfl); (case hr => first | (go_simp; done) | (go_simp; rfl)); (case hp => exact (Reps.none _ _)); intro v1558 w2 ho3 hb hg_ hnew_; clear hg_ hnew_; (first | rw [← Ny1557.out] at ho3 | (simp only [Int.reduceToNat] at ho3; rw [← Ny1557.out] at ho3)); have HO1559 := rl_ w ho3; replace HB := b1_ hb; clear hb ho3))
  go_loopg [3, 10] k (fun kq v3 v10 w' => ∃ (x3_1 : List Int) (x10_1 : Int), v10 = .int .i64 x10_1 ∧ Aside0 (laws_sorted.l0 kq x3_1 l0 (l0.length : Int) x10_1 = some r) ∧ Aside0 (kq ≤ k) ∧ Aside0 (Kd.R (Kd.int .i64) 3 w' w.heap.size (fun _ => True) v3 x3_1) ∧ Aside0 (Below w.heap.size w w'))
  case atStart => exact ⟨(y1557), (0), qc_, H', ⟨Nat.le_refl _⟩, ⟨(rr_ HO1559)⟩, ⟨hB_⟩⟩
  case round =>
    clear H'
    obtain ⟨x3_1, x10_1, rfl, HA, HK1, HO_3, HB⟩ := hrel
    cases gk with
    | zero => exact absurd HA.out (by simp [laws_sorted.l0])
    | succ k1 =>
      have H := HA.out
      clear HA
      simp only [laws_sorted.l0] at H
      by_cases c4 : x10_1 < (l0.length : Int)
      · rw [if_pos c4] at H
        have c4b0 := decide_eq_true c4
        clear c4
        have c5 := cp_ H
        replace H := ca_ H
        have c5b0 := decide_eq_true c5
        clear c5
        have c6 := cp_ H
        replace H := ca_ H
        have c6b0 := decide_eq_true c6
        clear c6
        have c7 := cp_ H
        replace H := ca_ H
        have LMc7 := Aside0.mk c7
        clear c7
        obtain ⟨y1561, hy1561⟩ : ∃ y_ : List Int, y_ = (x3_1 ++ [0]) := ⟨_, rfl⟩
        replace H : (laws_sorted.l1 k1 y1561 (rd l0 x10_1) (wrap64 ((y1561.length : Int) - 1)) l0 (l0.length : Int) x10_1) = some r := by first | (rw [hy1561]; exact H) | exact H
        have Ny1561 := Aside0.mk hy1561
        clear hy1561
        have H' := Aside0.mk H
        clear H
        have p1560 : 0 ≤ (x10_1 : Int) := of_decide_eq_true qe_
        have q1560 : x10_1 < (l0.length : Int) := of_decide_eq_true qe_
        obtain ⟨ad1560, e1560, hx1560_0⟩ := Kd.at_int HR0.out x10_1 p1560 q1560
        cases e1560
        replace hx1560_0 := (HB.out.cell (World.block_lt_of_cell? w _ hx1560_0)).trans hx1560_0
        replace p1560 := eq_true p1560
        replace q1560 := eq_true q1560
        go_wp2_with (first | ((with_reducible refine gate_builtin (b := .append) (xs := #[.tmp 14, .tmp 15]) rfl ?_); at_builtin; refine Kd.R_append (Kd.int .i64) (w0 := w) w.heap.size rfl (.tmp 14) (.tmp 15) 22 3 (.int .i64 0) 8 rfl Try.underlying22 info3 rfl (by decide) (by omega) u3 x3_1 0 [.int .i64 0] (fun _ => True) (fun _ => False) rfl rfl ?aP (fun _ hk => hk.elim) ?aF ?aO ?aB ?aS ?aL ?_; (case aP => exact rfl); (case aB => exact hB_); (case aF => exact (fun _ _ => trivial)); (case aO => exact (rr_ HO_3)); (case aS => exact (below_size hB_)); (case aL => have := LMc7.out; omega); intro v1562 w8 ho hb hg hat; rw [← Ny1561.out] at ho; replace HB := Aside0.mk hb; have HO1563 := Aside0.mk ho; clear HO_3; clear ho hb hg hat; obtain ⟨Ao9, co9, eo9⟩ := Kd.R_slice HO1563.out; subst eo9))
        go_loopg [6] k1 (fun kq v6 w' => ∃ (x3_2 : List Int) (x6_2 : Int), v6 = .int .i64 x6_2 ∧ Aside0 (laws_sorted.l1 kq x3_2 (rd l0 x10_1) x6_2 l0 (l0.length : Int) x10_1 = some r) ∧ Aside0 (kq ≤ k1) ∧ Aside0 (Kd.R (Kd.int .i64) 3 w' w.heap.size (fun _ => True) (.slice Ao9 y1561.length co9) x3_2) ∧ Aside0 (Below w.heap.size w w'))
        case atStart => exact ⟨(y1561), (wrap64 ((y1561.length : Int) - 1)), qc_, H', ⟨Nat.le_refl _⟩, ⟨(rr_ HO1563)⟩, ⟨hB_⟩⟩
        case round =>
          clear H'
          obtain ⟨x3_2, x6_2, rfl, HA, HK2, HO_3, HB⟩ := hrel
          have hl3_2 := (Kd.R_reads' HO_3.out).1
          rw [hl3_2] at HO_3
          (try simp only [hl3_2])
          cases gk with
          | zero => exact absurd HA.out (by simp [laws_sorted.l1])
          | succ k2 =>
            have H := HA.out
            clear HA
            simp only [laws_sorted.l1] at H
            by_cases c10 : x6_2 > 0
            · rw [if_pos c10] at H
              have c10b0 : decide (0 < x6_2) = true := decide_eq_true c10
              clear c10
              obtain ⟨ji11, hji11⟩ : ∃ j_ : Int, (wrap64 (x6_2 - 1)) = j_ := ⟨_, rfl⟩
              replace H : (if 0 ≤ (ji11) then (if (ji11) < (x3_2.length : Int) then (if (rd x3_2 (ji11)) < (rd l0 x10_1) then (if 0 ≤ x6_2 then (if x6_2 < (x3_2.length : Int) then (laws_sorted.l1 k2 (x3_2.set (x6_2 : Int).toNat (rd x3_2 (ji11))) (rd l0 x10_1) ji11 l0 (l0.length : Int) x10_1) else (none)) else (none)) else (if 0 ≤ x6_2 then (if x6_2 < (x3_2.length : Int) then (laws_sorted.l0 k2 (x3_2.set (x6_2 : Int).toNat (rd l0 x10_1)) l0 (l0.length : Int) (wrap64 (x10_1 + 1))) else (none)) else (none))) else (none)) else (none)) = some r := by first | (rw [hji11] at H; exact H) | (simp only [hji11] at H ⊢; exact H)
              have hji11w : (IntKind.i64.wrap (x6_2 - 1)) = ji11 := (i64_w _).trans hji11
              have c12 := cp_ H
              replace H := ca_ H
              have c12b0 := decide_eq_true c12
              clear c12
              have c13 := cp_ H
              replace H := ca_ H
              have c13b0 := decide_eq_true c13
              clear c13
              by_cases c14 : (rd x3_2 (ji11)) < (rd l0 x10_1)
              · rw [if_pos c14] at H
                have c14b0 := decide_eq_true c14
                clear c14
                have c15 := cp_ H
                replace H := ca_ H
                have c15b0 := decide_eq_true c15
                clear c15
                have c16 := cp_ H
                replace H := ca_ H
                have c16b0 := decide_eq_true c16
                clear c16
                obtain ⟨y1566, hy1566⟩ : ∃ y_ : List Int, y_ = (x3_2.set (x6_2 : Int).toNat (rd x3_2 (ji11))) := ⟨_, rfl⟩
                replace H : (laws_sorted.l1 k2 y1566 (rd l0 x10_1) ji11 l0 (l0.length : Int) x10_1) = some r := by first | (rw [hy1566]; exact H) | exact H
                have Ny1566 := Aside0.mk hy1566
                clear hy1566
                have H' := Aside0.mk H
                clear H
                have p1564 : 0 ≤ ((ji11) : Int) := of_decide_eq_true qe_
                have q1564 : (ji11) < (x3_2.length : Int) := of_decide_eq_true qe_
                obtain ⟨ad1564, e1564, hx1564_0⟩ := Kd.at_int (Kd.R_reads' HO_3.out).2.2 (ji11) p1564 q1564
                cases e1564
                replace p1564 := eq_true p1564
                replace q1564 := eq_true q1564
                have p1565 : 0 ≤ ((ji11) : Int) := of_decide_eq_true qe_
                have q1565 : (ji11) < (x3_2.length : Int) := of_decide_eq_true qe_
                obtain ⟨ad1565, e1565, hx1565_0⟩ := Kd.at_int (Kd.R_reads' HO_3.out).2.2 (ji11) p1565 q1565
                obtain rfl : ad1564 = ad1565 := (by injection e1565)
                replace p1565 := eq_true p1565
                replace q1565 := eq_true q1565
                have p17 : 0 ≤ (x6_2 : Int) := of_decide_eq_true qe_
                have q17 : (x6_2 : Int) < ((x3_2.length : Int) : Int) := of_decide_eq_true qe_
                obtain ⟨go17, co17, eo17, gb17, gl17, cl17, HG17⟩ := Kd.R_form HO_3.out (by omega)
                (first | cases eo17 | (injection eo17 with ea_ en_ ec_; (first | subst ea_ | (injection ea_ with ea_; subst ea_)); subst ec_; clear en_))
                have GB17 := Aside0.mk gb17
                have GG17 := Aside0.mk HG17
                clear gb17 gl17 HG17
                (first | simp only [add_plain] at hx1564_0 | skip)
                (first | simp only [add_plain] at hx1565_0 | skip)
                obtain ⟨hx17_0, hf17_0⟩ := Kd.R_celln 0 HO_3.out (x6_2 : Int) p17 q17
                replace p17 := eq_true p17
                replace q17 := eq_true q17
                have HP18 := Kd.R_putg HO_3.out (x6_2 : Int) (rd x3_2 (ji11))
                go_wp2_with (first | ((with_reducible refine gate_store (t := 3) (p := 38) rfl ?_); refine store_event (t := 3) (p := 38) (v := ?vo_w19) (w1 := (wr.setCell ⟨go17, (x6_2 : Int).toNat, none⟩ (.int .i64 (rd x3_2 (ji11))))) ?hg ?ho ?hn ?hr ?_; (case ho => rfl); (case hg => rfl); (case hn => rfl); (case hr => first | (go_simp; done) | (go_simp; rfl)); intro w19 hw; have hg : wr.grownBy w19 (some go17) := (by rw [hw]; exact HP18.2); have hp_ : Kd.R (Kd.int .i64) 3 w19 w.heap.size (fun _ => True) (.slice (some ⟨go17, 0, none⟩) x3_2.length co9) y1566 := (by rw [hw, Ny1566.out]; exact HP18.1); clear HP18; replace HO_3 := Aside0.mk (hp_); replace HB := Aside0.mk ((by rw [hw]; exact below_set (HB.out) GB17.out : Below w.heap.size w w19)); clear hg hw hp_))
                (try simp only [← hl3_2])
                go_roundg k2
                case measure => have := HK1.out; have := HK2.out; omega
                case rel => exact ⟨(y1566), (ji11), (by first | rfl | (simp; done) | (simp only [← hji11] <;> (first | rfl | simp)) | (simp [*]; done)), H', ⟨by have := HK1.out; have := HK2.out; omega⟩, ⟨by (try simp only [hl3_2]); (with_reducible repeat (first | apply Kd.R_alloc | apply Kd.R_drewN | apply Kd.R_drew)); exact HO_3.out⟩, ⟨hB_⟩⟩
              · rw [if_neg c14] at H
                have c14b0 := decide_eq_false c14
                clear c14
                have c20 := cp_ H
                replace H := ca_ H
                have c20b0 := decide_eq_true c20
                clear c20
                have c21 := cp_ H
                replace H := ca_ H
                have c21b0 := decide_eq_true c21
                clear c21
                obtain ⟨y1567, hy1567⟩ : ∃ y_ : List Int, y_ = (x3_2.set (x6_2 : Int).toNat (rd l0 x10_1)) := ⟨_, rfl⟩
                replace H : (laws_sorted.l0 k2 y1567 l0 (l0.length : Int) (wrap64 (x10_1 + 1))) = some r := by first | (rw [hy1567]; exact H) | exact H
                have Ny1567 := Aside0.mk hy1567
                clear hy1567
                have H' := Aside0.mk H
                clear H
                have p1564 : 0 ≤ ((ji11) : Int) := of_decide_eq_true qe_
                have q1564 : (ji11) < (x3_2.length : Int) := of_decide_eq_true qe_
                obtain ⟨ad1564, e1564, hx1564_0⟩ := Kd.at_int (Kd.R_reads' HO_3.out).2.2 (ji11) p1564 q1564
                cases e1564
                replace p1564 := eq_true p1564
                replace q1564 := eq_true q1564
                have p22 : 0 ≤ (x6_2 : Int) := of_decide_eq_true qe_
                have q22 : (x6_2 : Int) < ((x3_2.length : Int) : Int) := of_decide_eq_true qe_
                obtain ⟨go22, co22, eo22, gb22, gl22, cl22, HG22⟩ := Kd.R_form HO_3.out (by omega)
                (first | cases eo22 | (injection eo22 with ea_ en_ ec_; (first | subst ea_ | (injection ea_ with ea_; subst ea_)); subst ec_; clear en_))
                have GB22 := Aside0.mk gb22
                have GG22 := Aside0.mk HG22
                clear gb22 gl22 HG22
                (first | simp only [add_plain] at hx1564_0 | skip)
                obtain ⟨hx22_0, hf22_0⟩ := Kd.R_celln 0 HO_3.out (x6_2 : Int) p22 q22
                replace p22 := eq_true p22
                replace q22 := eq_true q22
                have HP23 := Kd.R_putg HO_3.out (x6_2 : Int) (rd l0 x10_1)
                go_wp2_with (first | ((with_reducible refine gate_store (t := 3) (p := 44) rfl ?_); refine store_event (t := 3) (p := 44) (v := ?vo_w24) (w1 := (wr.setCell ⟨go22, (x6_2 : Int).toNat, none⟩ (.int .i64 (rd l0 x10_1)))) ?hg ?ho ?hn ?hr ?_; (case ho => rfl); (case hg => rfl); (case hn => rfl); (case hr => first | (go_simp; done) | (go_simp; rfl)); intro w24 hw; have hg : wr.grownBy w24 (some go22) := (by rw [hw]; exact HP23.2); have hp_ : Kd.R (Kd.int .i64) 3 w24 w.heap.size (fun _ => True) (.slice (some ⟨go22, 0, none⟩) x3_2.length co9) y1567 := (by rw [hw, Ny1567.out]; exact HP23.1); clear HP23; replace HO_3 := Aside0.mk (hp_); replace HB := Aside0.mk ((by rw [hw]; exact below_set (HB.out) GB22.out : Below w.heap.size w w24)); clear hg hw hp_))
                (try simp only [← hl3_2])
                go_roundg k2
                case measure => have := HK1.out; have := HK2.out; omega
                case rel => exact ⟨(y1567), (wrap64 (x10_1 + 1)), qc_, H', ⟨by have := HK1.out; have := HK2.out; omega⟩, ⟨by (try simp only [hl3_2]); (with_reducible repeat (first | apply Kd.R_alloc | apply Kd.R_drewN | apply Kd.R_drew)); exact HO_3.out⟩, ⟨hB_⟩⟩
            · rw [if_neg c10] at H
              have c10b0 : decide (0 < x6_2) = false := decide_eq_false c10
              clear c10
              have c25 := cp_ H
              replace H := ca_ H
              have c25b0 := decide_eq_true c25
              clear c25
              have c26 := cp_ H
              replace H := ca_ H
              have c26b0 := decide_eq_true c26
              clear c26
              obtain ⟨y1568, hy1568⟩ : ∃ y_ : List Int, y_ = (x3_2.set (x6_2 : Int).toNat (rd l0 x10_1)) := ⟨_, rfl⟩
              replace H : (laws_sorted.l0 k2 y1568 l0 (l0.length : Int) (wrap64 (x10_1 + 1))) = some r := by first | (rw [hy1568]; exact H) | exact H
              have Ny1568 := Aside0.mk hy1568
              clear hy1568
              have H' := Aside0.mk H
              clear H
              have p27 : 0 ≤ (x6_2 : Int) := of_decide_eq_true qe_
              have q27 : (x6_2 : Int) < ((x3_2.length : Int) : Int) := of_decide_eq_true qe_
              obtain ⟨go27, co27, eo27, gb27, gl27, cl27, HG27⟩ := Kd.R_form HO_3.out (by omega)
              (first | cases eo27 | (injection eo27 with ea_ en_ ec_; (first | subst ea_ | (injection ea_ with ea_; subst ea_)); subst ec_; clear en_))
              have GB27 := Aside0.mk gb27
              have GG27 := Aside0.mk HG27
              clear gb27 gl27 HG27
              obtain ⟨hx27_0, hf27_0⟩ := Kd.R_celln 0 HO_3.out (x6_2 : Int) p27 q27
              replace p27 := eq_true p27
              replace q27 := eq_true q27
              have HP28 := Kd.R_putg HO_3.out (x6_2 : Int) (rd l0 x10_1)
              go_wp2_with (first | ((with_reducible refine gate_store (t := 3) (p := 44) rfl ?_); refine store_event (t := 3) (p := 44) (v := ?vo_w29) (w1 := (wr.setCell ⟨go27, (x6_2 : Int).toNat, none⟩ (.int .i64 (rd l0 x10_1)))) ?hg ?ho ?hn ?hr ?_; (case ho => rfl); (case hg => rfl); (case hn => rfl); (case hr => first | (go_simp; done) | (go_simp; rfl)); intro w29 hw; have hg : wr.grownBy w29 (some go27) := (by rw [hw]; exact HP28.2); have hp_ : Kd.R (Kd.int .i64) 3 w29 w.heap.size (fun _ => True) (.slice (some ⟨go27, 0, none⟩) x3_2.length co9) y1568 := (by rw [hw, Ny1568.out]; exact HP28.1); clear HP28; replace HO_3 := Aside0.mk (hp_); replace HB := Aside0.mk ((by rw [hw]; exact below_set (HB.out) GB27.out : Below w.heap.size w w29)); clear hg hw hp_))
              (try simp only [← hl3_2])
              go_roundg k2
              case measure => have := HK1.out; have := HK2.out; omega
              case rel => exact ⟨(y1568), (wrap64 (x10_1 + 1)), qc_, H', ⟨by have := HK1.out; have := HK2.out; omega⟩, ⟨by (try simp only [hl3_2]); (with_reducible repeat (first | apply Kd.R_alloc | apply Kd.R_drewN | apply Kd.R_drew)); exact HO_3.out⟩, ⟨hB_⟩⟩
      · rw [if_neg c4] at H
        have c4b0 := decide_eq_false c4
        clear c4
        obtain rfl := Option.some.inj H
        go_wp2
        go_ret
        exact ⟨_, qb_, (rr_ HO_3), hB_⟩
end Go.Proofs.Ytbdnellgioimbaa.A
end
section
namespace Go.Proofs.Ytbdnellgioimbaa.A
open Go.RowKit Go.Proofs.YtbdnellgioimbaaW.PrintWords Go.Proofs.YtbdnellgioimbaaW.PrintLast Go.Proofs.YtbdnellgioimbaaW.PrintMore
attribute [local go_sem] max2_int min2_int max_two min_two max_three min_three max_four min_four
set_option linter.unusedVariables false
set_option linter.unusedSimpArgs false
def laws_lengths.l0 : Nat → List Int → List (List Int) → Int → Int → Option (List Int)
  | 0, _, _, _, _ => none
  | k + 1, x3, x7, x8, x9 => if x9 < x8 then (if 0 ≤ x9 then (if x9 < (x7.length : Int) then (if x3.length < 17592186044416 then (laws_lengths.l0 k (x3 ++ [((rd_L1 x7 x9).length : Int)]) x7 x8 (wrap64 (x9 + 1))) else (none)) else (none)) else (none)) else ((laws_sorted.f k x3).bind fun t1576 => (some t1576))
def laws_lengths.f (k : Nat) (l0 : List (List Int)) : Option (List Int) := laws_lengths.l0 k (([] : List Int)) l0 (l0.length : Int) 0
theorem laws_lengths.mono_l : ∀ k, (∀ y0 y1 y2 y3, LeO (laws_lengths.l0 k y0 y1 y2 y3) (laws_lengths.l0 (k + 1) y0 y1 y2 y3))
  | 0 => fun _ _ _ _ r h => by simp [laws_lengths.l0] at h
  | k + 1 => by
    have ih0 := laws_lengths.mono_l k
    · intro y0 y1 y2 y3
      unfold laws_lengths.l0
      repeat' first|exact ih0 _ _ _ _|exact laws_sorted.mono _ _|exact lo_|refine LeO.ite ?_ ?_|refine LeO.bind ?_ (fun _ => ?_)
theorem laws_lengths.mono : ∀ a0 k, LeO (laws_lengths.f k a0) (laws_lengths.f (k + 1) a0) := by
  intro a0 k
  have ih0 := laws_lengths.mono_l k
  unfold laws_lengths.f
  repeat' first|exact ih0 _ _ _ _|exact laws_sorted.mono _ _|exact lo_|refine LeO.ite ?_ ?_|refine LeO.bind ?_ (fun _ => ?_)
set_option maxHeartbeats 8000000 in
set_option maxRecDepth 100000 in
theorem laws_lengths.calls (k : Nat) (A0 : Option Addr) (c0 : Nat) (l0 : List (List Int)) (r : List Int) (w : World) (hr0 : Kd.C (Kd.slice 3 (Kd.int .i64)) w A0 l0.length l0) (hc0 : l0.length ≤ c0) (h : laws_lengths.f k l0 = some r) :
    Calls Try.prog 55 #[.slice A0 l0.length c0] w fun e w' => ∃ v0_ : Value, e = .returned (v0_) ∧ Kd.R (Kd.int .i64) 3 w' w.heap.size (fun _ => True) v0_ r ∧ Below w.heap.size w w' := by
  have HR0 := Aside0.mk hr0
  have HC0 := Aside0.mk hc0
  clear hr0 hc0
  have HB := Aside0.mk (Below.refl w.heap.size w)
  have H := h
  unfold laws_lengths.f at H
  clear h
  obtain ⟨y1569, hy1569⟩ : ∃ y_ : List Int, y_ = (([] : List Int)) := ⟨_, rfl⟩
  replace H : (laws_lengths.l0 k y1569 l0 (l0.length : Int) 0) = some r := by first | (rw [hy1569]; exact H) | exact H
  have Ny1569 := Aside0.mk hy1569
  clear hy1569
  have H' := Aside0.mk H
  clear H
  go_enter Try.func55, Try.ntmps55
  go_wp2_with (first | ((with_reducible refine gate_dst (N := 6) rfl ?_); refine Kd.R_lit (Kd.int .i64) _ 3 ?hg (N := 6) ?hd (xs := ([] : List Int)) (inner := []) (ok := fun _ => True) (okp := fun _ => True) ?hr ?hp (fun _ hk => hk) trivial (Below.refl _ _) (Nat.le_refl _) (by simp) ?_; (case hd => rfl); (case hg => rfl); (case hr => first | (go_simp; done) | (go_simp; rfl)); (case hp => exact (Reps.none _ _)); intro v1570 w2 ho3 hb hg_ hnew_; clear hg_ hnew_; (first | rw [← Ny1569.out] at ho3 | (simp only [Int.reduceToNat] at ho3; rw [← Ny1569.out] at ho3)); have HO1571 := rl_ w ho3; replace HB := b1_ hb; clear hb ho3))
  go_loopg [3, 9] k (fun kq v3 v9 w' => ∃ (x3_1 : List Int) (x9_1 : Int), v9 = .int .i64 x9_1 ∧ Aside0 (laws_lengths.l0 kq x3_1 l0 (l0.length : Int) x9_1 = some r) ∧ Aside0 (kq ≤ k) ∧ Aside0 (Kd.R (Kd.int .i64) 3 w' w.heap.size (fun _ => True) v3 x3_1) ∧ Aside0 (Below w.heap.size w w'))
  case atStart => exact ⟨(y1569), (0), qc_, H', ⟨Nat.le_refl _⟩, ⟨(rr_ HO1571)⟩, ⟨hB_⟩⟩
  case round =>
    clear H'
    obtain ⟨x3_1, x9_1, rfl, HA, HK1, HO_3, HB⟩ := hrel
    cases gk with
    | zero => exact absurd HA.out (by simp [laws_lengths.l0])
    | succ k1 =>
      have H := HA.out
      clear HA
      simp only [laws_lengths.l0] at H
      by_cases c4 : x9_1 < (l0.length : Int)
      · rw [if_pos c4] at H
        have c4b0 := decide_eq_true c4
        clear c4
        have c5 := cp_ H
        replace H := ca_ H
        have c5b0 := decide_eq_true c5
        clear c5
        have c6 := cp_ H
        replace H := ca_ H
        have c6b0 := decide_eq_true c6
        clear c6
        have c7 := cp_ H
        replace H := ca_ H
        have LMc7 := Aside0.mk c7
        clear c7
        obtain ⟨y1573, hy1573⟩ : ∃ y_ : List Int, y_ = (x3_1 ++ [((rd_L1 l0 x9_1).length : Int)]) := ⟨_, rfl⟩
        replace H : (laws_lengths.l0 k1 y1573 l0 (l0.length : Int) (wrap64 (x9_1 + 1))) = some r := by first | (rw [hy1573]; exact H) | exact H
        have Ny1573 := Aside0.mk hy1573
        clear hy1573
        have H' := Aside0.mk H
        clear H
        have p1572 : 0 ≤ (x9_1 : Int) := of_decide_eq_true qe_
        have q1572 : x9_1 < (l0.length : Int) := of_decide_eq_true qe_
        obtain ⟨ad1572, A1572_0, c1572_0, e1572, hx1572_0, hl1572_0, hi1572_0⟩ := at_L1 HR0.out x9_1 p1572 q1572
        cases e1572
        replace hx1572_0 := (HB.out.cell (World.block_lt_of_cell? w _ hx1572_0)).trans hx1572_0
        have HR1572_0 := Aside0.mk hi1572_0
        have HC1572_0 := Aside0.mk hl1572_0
        clear hi1572_0 hl1572_0
        replace p1572 := eq_true p1572
        replace q1572 := eq_true q1572
        go_wp2_with (first | ((with_reducible refine gate_builtin (b := .append) (xs := #[.tmp 13, .tmp 16]) rfl ?_); at_builtin; refine Kd.R_append (Kd.int .i64) (w0 := w) w.heap.size rfl (.tmp 13) (.tmp 16) 22 3 (.int .i64 0) 8 rfl Try.underlying22 info3 rfl (by decide) (by omega) u3 x3_1 ((rd_L1 l0 x9_1).length : Int) [.int .i64 ((rd_L1 l0 x9_1).length : Int)] (fun _ => True) (fun _ => False) rfl rfl ?aP (fun _ hk => hk.elim) ?aF ?aO ?aB ?aS ?aL ?_; (case aP => exact rfl); (case aB => exact hB_); (case aF => exact (fun _ _ => trivial)); (case aO => exact (rr_ HO_3)); (case aS => exact (below_size hB_)); (case aL => have := LMc7.out; omega); intro v1574 w8 ho hb hg hat; rw [← Ny1573.out] at ho; replace HB := Aside0.mk hb; have HO1575 := Aside0.mk ho; clear HO_3; clear ho hb hg hat))
        go_roundg k1
        case measure => have := HK1.out; omega
        case rel => exact ⟨(y1573), (wrap64 (x9_1 + 1)), qc_, H', ⟨by have := HK1.out; omega⟩, ⟨(rr_ HO1575)⟩, ⟨hB_⟩⟩
      · rw [if_neg c4] at H
        have c4b0 := decide_eq_false c4
        clear c4
        obtain ⟨t1576, A9, H⟩ := bi_ H
        obtain rfl := Option.some.inj H
        obtain ⟨Ao10, co10, eo10⟩ := Kd.R_slice HO_3.out
        subst eo10
        go_wp2_with (first | ((with_reducible refine gate_callee (f := 97) rfl ?_); refine gL_ (some 20) Try.func97 #[.slice Ao10 x3_1.length co10] rfl qa_ ?_; (with_reducible refine (laws_sorted.calls k1 _ _ x3_1 t1576 _ (cr_ HO_3) ((Kd.R_reads' HO_3.out).2.1) A9.out).mono ?_); rintro e w11 ⟨v1577, rfl, ho0, hb⟩; refine ⟨_, rfl, ?_⟩; have HO1578 := Aside0.mk (Kd.R_lower (Kd.R_new' ho0 (Kd.R_lt (rr_ HO_3))) (below_size hB_)); replace HO_3 := Aside0.mk (Kd.R_elder' (rr_ HO_3) (Kd.R_base ho0) hb); replace HB := b1_ hb; clear hb ho0))
        go_ret
        exact ⟨_, qb_, (rw_ (Kd.R_mono HO1578.out (fun _ hk => trivial))), hB_⟩
end Go.Proofs.Ytbdnellgioimbaa.A
end
