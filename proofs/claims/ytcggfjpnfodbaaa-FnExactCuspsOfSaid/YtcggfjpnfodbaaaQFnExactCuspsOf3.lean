/- Lemmas for the row FnExactCuspsOf: the program's functions told as plain functions, and plain mathematics. No conditions. -/
import Derived.Test.YtcggfjpnfodbaaaQFnExactCuspsOf2
section
namespace Go.Proofs.Ytcggfjpnfodbaaa.A
open Go.RowKit Go.Proofs.YtcggfjpnfodbaaaW.PrintWords Go.Proofs.YtcggfjpnfodbaaaW.PrintLast Go.Proofs.YtcggfjpnfodbaaaW.PrintMore
attribute [local go_sem] max2_int min2_int max_two min_two max_three min_three max_four min_four
set_option linter.unusedVariables false
set_option linter.unusedSimpArgs false
mutual
def impl_CuspsOf.l0 : Nat → List Int → List Int → List Bool → Int → Int → Option (List Int × Bool)
  | 0, _, _, _, _, _ => none
  | k + 1, x6, x7, x8, x26, x27 => if x27 < x26 then (impl_CuspsOf.l1 k x6 x7 x8 0 x27 x26 x27) else ((slices_SortFunc_int_int.f x7).bind fun t => (some (t, true)))
def impl_CuspsOf.l1 : Nat → List Int → List Int → List Bool → Int → Int → Int → Int → Option (List Int × Bool)
  | 0, _, _, _, _, _, _, _ => none
  | k + 1, x6, x7, x8, x10, x11, x26, x27 => if 0 ≤ x11 then (if x11 < (x8.length : Int) then (if rdOf false x8 x11 = true then (if x10 > 0 then (if x7.length < 17592186044416 then (impl_CuspsOf.l0 k x6 (x7 ++ [x10]) x8 x26 (wrap64 (x27 + 1))) else (none)) else (impl_CuspsOf.l0 k x6 x7 x8 x26 (wrap64 (x27 + 1)))) else (if x11 < (x6.length : Int) then (impl_CuspsOf.l1 k x6 x7 (x8.set (x11 : Int).toNat true) (wrap64 (x10 + 1)) (rd x6 x11) x26 x27) else (none))) else (none)) else (none)
end
def impl_CuspsOf.f (k : Nat) (r u : List Int) : Option (List Int × Bool) := (M.orbitO k r u).bind fun z => match z with | none => some (([] : List Int), false) | some s => if s.L.length ≤ 281474976710656 ∧ 0 < s.T.length then (impl_CuspsOf.l0 k s.T ([] : List Int) (List.replicate s.L.length false) (s.L.length : Int) 0) else none
theorem impl_CuspsOf.mono_l : ∀ k, (∀ y0 y1 y2 y3 y4, LeO (impl_CuspsOf.l0 k y0 y1 y2 y3 y4) (impl_CuspsOf.l0 (k + 1) y0 y1 y2 y3 y4)) ∧ (∀ y0 y1 y2 y3 y4 y5 y6, LeO (impl_CuspsOf.l1 k y0 y1 y2 y3 y4 y5 y6) (impl_CuspsOf.l1 (k + 1) y0 y1 y2 y3 y4 y5 y6))
  | 0 => ⟨fun _ _ _ _ _ r h => by simp [impl_CuspsOf.l0] at h, fun _ _ _ _ _ _ _ r h => by simp [impl_CuspsOf.l1] at h⟩
  | k + 1 => by
    obtain ⟨ih0, ih1⟩ := impl_CuspsOf.mono_l k
    refine ⟨?_, ?_⟩
    · intro y0 y1 y2 y3 y4
      unfold impl_CuspsOf.l0
      repeat' first|exact ih0 _ _ _ _ _|exact ih1 _ _ _ _ _ _ _|exact lo_|refine LeO.ite ?_ ?_|refine LeO.bind ?_ (fun _ => ?_)
    · intro y0 y1 y2 y3 y4 y5 y6
      unfold impl_CuspsOf.l1
      repeat' first|exact ih0 _ _ _ _ _|exact ih1 _ _ _ _ _ _ _|exact lo_|refine LeO.ite ?_ ?_|refine LeO.bind ?_ (fun _ => ?_)
theorem impl_CuspsOf.mono : ∀ a0 a1 k, LeO (impl_CuspsOf.f k a0 a1) (impl_CuspsOf.f (k + 1) a0 a1) := by
  intro a0 a1 k
  unfold impl_CuspsOf.f
  refine LeO.bind (M.orbitO_mono _ _ _) (fun z => ?_)
  cases z with
  | none => exact LeO.refl _
  | some s => exact LeO.ite ((impl_CuspsOf.mono_l k).1 _ _ _ _ _) (LeO.refl _)
theorem impl_CuspsOf.lookT {w : World} {b n : Nat} {vT vS : Value} (hb : w.heap[b]? = some (M.mapO n vT vS)) : (Instr.lookup 67 (.map (some b)) (.int .u8 84) false).run Try.prog w = .ok (M.mapV n 84 vT vS) w := by
  by_cases hn : n = 0 ∨ n = 1 ∨ n = 2
  · exact M.look_T hb hn
  · obtain ⟨m, rfl⟩ : ∃ m, n = m + 2 := ⟨n - 2, by omega⟩
    have e : M.mapO (m + 2) vT vS = .map #[⟨.int .u8 84, vT, 0⟩, ⟨.int .u8 83, vS, 1⟩] (m + 2) := by
      unfold M.mapO
      congr 1
      exact Array.extract_eq_self_of_le (Nat.le_add_left 2 m)
    have e2 : M.mapV (m + 2) 84 vT vS = vT := by
      unfold M.mapV
      rw [if_pos rfl, if_pos (by omega)]
    rw [e] at hb
    rw [e2]
    exact M.map_look hb 84 (some (0, vT)) rfl
set_option maxHeartbeats 8000000 in
set_option maxRecDepth 100000 in
theorem impl_CuspsOf.calls (k : Nat) (A0_0 : Option Addr) (c0_0 : Nat) (l0_0 : List Int) (A0_1 : Option Addr) (c0_1 : Nat) (l0_1 : List Int) (r1 : List Int) (r2 : Bool) (w : World) (hr0_0 : Kd.C (Kd.int .i64) w A0_0 l0_0.length l0_0) (hc0_0 : l0_0.length ≤ c0_0) (hr0_1 : Kd.C (Kd.int .i64) w A0_1 l0_1.length l0_1) (hc0_1 : l0_1.length ≤ c0_1) (h : impl_CuspsOf.f k l0_0 l0_1 = some (r1, r2)) :
    Calls Try.prog 15 #[.agg #[.slice A0_0 l0_0.length c0_0, .slice A0_1 l0_1.length c0_1]] w fun e w' => ∃ v0_ : Value, e = .returned (.tuple #[v0_, .bool r2]) ∧ Kd.R (Kd.int .i64) 3 w' w.heap.size (fun _ => True) v0_ r1 ∧ Below w.heap.size w w' := by
  have hu := Try.underlying25
  have HR0_0 := Aside0.mk hr0_0; have HC0_0 := Aside0.mk hc0_0; clear hr0_0 hc0_0
  have HR0_1 := Aside0.mk hr0_1; have HC0_1 := Aside0.mk hc0_1; clear hr0_1 hc0_1
  have HB := Aside0.mk (Below.refl w.heap.size w)
  have H := h
  unfold impl_CuspsOf.f at H
  clear h
  obtain ⟨z, AZ, H⟩ := bi_ H
  cases z with
  | none =>
    obtain ⟨rfl, rfl⟩ := Prod.mk.inj (Option.some.inj H)
    go_enter Try.func15, Try.ntmps15
    go_wp2_with (first | ((with_reducible refine gate_dst (N := 1) rfl ?_); refine bx_ 1 #[.slice A0_0 l0_0.length c0_0, .slice A0_1 l0_1.length c0_1] 25 ?_; intro gs hg wgs hbox hb; have Bgs := Aside0.mk hbox; replace HB := b1_ hb; clear hb hbox hg; have hczgs0 := cz0_ Bgs; have hczgs1 := cz1_ Bgs; have hfzgs0 := blk_frozen Bgs.out 0; have hfzgs1 := blk_frozen Bgs.out 1) | ((with_reducible refine gate_callee (f := 59) rfl ?_); refine gL_ (some 13) Try.func59 #[.agg #[.slice A0_0 l0_0.length c0_0, .slice A0_1 l0_1.length c0_1]] rfl qa_ ?_; (with_reducible refine (M.orbit_calls k _ _ l0_0 _ _ l0_1 none _ (cb_ HR0_0) HC0_0.out (cb_ HR0_1) HC0_1.out AZ.out).mono ?_); rintro e wz ⟨rfl, hb⟩; refine ⟨_, rfl, ?_⟩; replace HB := b1_ hb; clear hb))
    go_ret2
    exact ⟨_, qb_, Kd.R_nil _ _ _ _ _, hB_⟩
  | some s =>
    dsimp only at H
    have hsm := cp_ H
    replace H := ca_ H
    have HSM := Aside0.mk hsm.1
    have HTP := Aside0.mk hsm.2
    clear hsm
    obtain ⟨y1411, hy1411⟩ : ∃ y_ : List Int, y_ = (([] : List Int)) := ⟨_, rfl⟩
    rw [← hy1411] at H
    have Ny1411 := Aside0.mk hy1411
    clear hy1411
    obtain ⟨y1414, hy1414⟩ : ∃ y_ : List Bool, y_ = (List.replicate s.L.length false) := ⟨_, rfl⟩
    rw [← hy1414] at H
    have Ny1414 := Aside0.mk hy1414
    clear hy1414
    have H' := Aside0.mk H
    clear H
    go_enter Try.func15, Try.ntmps15
    go_upto_region 4 with (first | ((with_reducible refine gate_dst (N := 1) rfl ?_); refine bx_ 1 #[.slice A0_0 l0_0.length c0_0, .slice A0_1 l0_1.length c0_1] 25 ?_; intro gs hg wgs hbox hb; have Bgs := Aside0.mk hbox; replace HB := b1_ hb; clear hb hbox hg; have hczgs0 := cz0_ Bgs; have hczgs1 := cz1_ Bgs; have hfzgs0 := blk_frozen Bgs.out 0; have hfzgs1 := blk_frozen Bgs.out 1) | ((with_reducible refine gate_callee (f := 59) rfl ?_); refine gL_ (some 13) Try.func59 #[.agg #[.slice A0_0 l0_0.length c0_0, .slice A0_1 l0_1.length c0_1]] rfl qa_ ?_; (with_reducible refine (M.orbit_calls k _ _ l0_0 _ _ l0_1 (some s) _ (cb_ HR0_0) HC0_0.out (cb_ HR0_1) HC0_1.out AZ.out).mono ?_); rintro e wz ⟨gO, gM, nm_, col, vL, vW, vF, vB, vT, vS, rfl, hh, hb⟩; refine ⟨_, rfl, ?_⟩; replace HB := b1_ hb; have HH := Aside0.mk hh; clear hb hh; obtain ⟨AL, cL, eL⟩ := Kd.S_slice HH.out.hL; subst eL; obtain ⟨AW, cW, eW⟩ := Kd.R_slice HH.out.hW; subst eW; have hco0 : wz.cell? ⟨gO, 0, none⟩ = some (.slice AL s.L.length cL) := (blk_cell HH.out.hO 0).trans rfl; have hco1 : wz.cell? ⟨gO, 1, none⟩ = some (.slice AW s.W.length cW) := (blk_cell HH.out.hO 1).trans rfl; have hfo0 := blk_frozen HH.out.hO 0; have hfo1 := blk_frozen HH.out.hO 1))
    have HB0 := HB
    replace HB := Aside0.mk (Below.refl wz.heap.size wz)
    obtain ⟨AT, cT, eT⟩ := Kd.R_slice HH.out.hT
    subst eT
    have HLK : Aside0 (∀ w', w'.heap[gM]? = some (M.mapO nm_ (.slice AT s.T.length cT) vS) → (Instr.lookup 67 (.map (some gM)) (.int .u8 84) false).run Try.prog w' = .ok (.slice AT s.T.length cT) w') := ⟨fun w' h_ => by
      have := impl_CuspsOf.lookT h_
      rw [HH.out.look.1] at this
      exact this⟩
    clear hco1 hfo1
    go_upto_region 5 with (first | ((with_reducible refine gate_dst (N := 23) rfl ?_); refine Kd.R_make Kd.bool _ 4 rfl (N := 23) rfl 66 _ _ rfl (s.L.length : Int) rfl rfl Try.underlying66 (.bool false) 1 info4 rfl (by decide) (by omega) false (ok := fun _ => True) (okp := fun _ => True) rfl (fun _ hk => hk) trivial (Int.natCast_nonneg _) (Nat.le_trans (Nat.mul_le_mul_right _ HSM.out) (by omega)) (Below.refl _ _) (Nat.le_refl _) ?_; intro v1415 w15 ho16 hb hg_ hnew_; clear hg_ hnew_; rw [Int.toNat_natCast, ← Ny1414.out] at ho16; have HO1416 := rl_ wz ho16; replace HB := b1_ hb; clear hb ho16))
    go_upto_region 6 with (first | ((with_reducible refine gate_dst (N := 24) rfl ?_); refine Kd.R_lit (Kd.int .i64) _ 3 ?hg (N := 24) ?hd (xs := ([] : List Int)) (inner := []) (ok := fun _ => True) (okp := fun _ => True) ?hr ?hp (fun _ hk => hk) trivial (Below.refl _ _) (Nat.le_refl _) (by simp) ?_; (case hd => rfl); (case hg => rfl); (case hr => first | (go_simp; done) | (go_simp; rfl)); (case hp => exact (Reps.none _ _)); intro v1412 w12 ho13 hb hg_ hnew_; clear hg_ hnew_; rw [← Ny1411.out] at ho13; have HO1413 := rl_ wz ho13; replace HO1416 := rb_ HO1416 hb; replace HB := b1_ hb; clear hb ho13))
    have hHr := HH.out.below HB.out
    have hcp0 : w12.cell? ⟨gO, 0, none⟩ = some (.slice AL s.L.length cL) := (blk_cell hHr.hO 0).trans rfl
    have hfp0 := blk_frozen hHr.hO 0
    clear hHr
    go_wp2
    go_loopg [7, 30] k (fun kq v7 v30 w' => ∃ (x7_1 : List Int) (x8_1 : List Bool) (x27_1 : Int), v30 = .int .i64 x27_1 ∧ Aside0 (impl_CuspsOf.l0 kq s.T x7_1 x8_1 (s.L.length : Int) x27_1 = some (r1, r2)) ∧ Aside0 (kq ≤ k) ∧ Aside0 (Kd.R (Kd.int .i64) 3 w' wz.heap.size (fun _ => True) v7 x7_1) ∧ Aside0 (Kd.R Kd.bool 4 w' wz.heap.size (fun _ => True) v1415 x8_1) ∧ Aside0 (Below wz.heap.size wz w'))
    case atStart => exact ⟨(y1411), (y1414), (0), qc_, H', ⟨Nat.le_refl _⟩, ⟨(rr_ HO1413)⟩, ⟨(rr_ HO1416)⟩, ⟨hB_⟩⟩
    case round =>
      clear H' hcp0 hfp0 hco0 hfo0
      obtain ⟨x7_1, x8_1, x27_1, rfl, HA, HK1, HO_7, HO_8, HB⟩ := hrel
      cases gk with
      | zero => exact absurd HA.out (by simp [impl_CuspsOf.l0])
      | succ k1 =>
        have H := HA.out
        clear HA
        simp only [impl_CuspsOf.l0] at H
        by_cases c17 : x27_1 < (s.L.length : Int)
        · rw [if_pos c17] at H
          have c17b0 := decide_eq_true c17
          clear c17
          have H' := Aside0.mk H
          clear H
          go_wp2
          go_loopg [9, 10] k1 (fun kq v9 v10 w' => ∃ (x8_2 : List Bool) (x10_2 : Int) (x11_2 : Int), v9 = .int .i64 x10_2 ∧ v10 = .int .i64 x11_2 ∧ Aside0 (impl_CuspsOf.l1 kq s.T x7_1 x8_2 x10_2 x11_2 (s.L.length : Int) x27_1 = some (r1, r2)) ∧ Aside0 (kq ≤ k1) ∧ Aside0 (Kd.R (Kd.int .i64) 3 w' wz.heap.size (fun _ => True) u7 x7_1) ∧ Aside0 (Kd.R Kd.bool 4 w' wz.heap.size (fun _ => True) v1415 x8_2) ∧ Aside0 (Below wz.heap.size wz w'))
          case atStart => exact ⟨(x8_1), (0), (x27_1), qc_, qc_, H', ⟨Nat.le_refl _⟩, ⟨(rr_ HO_7)⟩, ⟨(rr_ HO_8)⟩, ⟨hB_⟩⟩
          case round =>
            clear H'
            obtain ⟨x8_2, x10_2, x11_2, rfl, rfl, HA, HK2, HO_7, HO_8, HB⟩ := hrel
            cases gk with
            | zero => exact absurd HA.out (by simp [impl_CuspsOf.l1])
            | succ k2 =>
              have H := HA.out
              clear HA
              simp only [impl_CuspsOf.l1] at H
              have c18 := cp_ H
              replace H := ca_ H
              have c18b0 := decide_eq_true c18
              clear c18
              have c19 := cp_ H
              replace H := ca_ H
              have c19b0 := decide_eq_true c19
              clear c19
              obtain ⟨bq20, hbq20⟩ : ∃ b_ : Bool, b_ = (rdOf false x8_2 x11_2) := ⟨_, rfl⟩
              rw [← hbq20] at H
              have Nbq20 := Aside0.mk hbq20
              clear hbq20
              by_cases c21 : bq20 = true
              · subst c21
                rw [if_pos rfl] at H
                by_cases c22 : x10_2 > 0
                · rw [if_pos c22] at H
                  have c22b0 : decide (0 < x10_2) = true := decide_eq_true c22
                  clear c22
                  have c23 := cp_ H
                  replace H := ca_ H
                  have LMc23 := Aside0.mk c23
                  clear c23
                  obtain ⟨y1421, hy1421⟩ : ∃ y_ : List Int, y_ = (x7_1 ++ [x10_2]) := ⟨_, rfl⟩
                  rw [← hy1421] at H
                  have Ny1421 := Aside0.mk hy1421
                  clear hy1421
                  have H' := Aside0.mk H
                  clear H
                  obtain ⟨Ao24, co24, eo24⟩ := Kd.R_slice HO_8.out
                  subst eo24
                  have p1420 : 0 ≤ (x11_2 : Int) := of_decide_eq_true qe_
                  have q1420 : x11_2 < (x8_2.length : Int) := of_decide_eq_true qe_
                  obtain ⟨ad1420, e1420, hx1420_0⟩ := Kd.at_bool (Kd.R_reads' HO_8.out).2.2 x11_2 p1420 q1420
                  (try rw [← Nbq20.out] at hx1420_0)
                  cases e1420
                  replace p1420 := eq_true p1420
                  replace q1420 := eq_true q1420
                  go_wp2_with (first | ((with_reducible refine gate_builtin (b := .append) (xs := #[.tmp 54, .tmp 56]) rfl ?_); at_builtin; refine Kd.R_append (Kd.int .i64) (w0 := wz) wz.heap.size rfl (.tmp 54) (.tmp 56) 23 3 (.int .i64 0) 8 rfl Try.underlying23 info3 rfl (by decide) (by omega) u7 x7_1 x10_2 [.int .i64 x10_2] (fun _ => True) (fun _ => False) rfl rfl ?aP (fun _ hk => hk.elim) ?aF ?aO ?aB ?aS ?aL ?_; (case aP => exact rfl); (case aB => exact hB_); (case aF => exact (fun k_ hk => trivial)); (case aO => exact (rr_ HO_7)); (case aS => exact (below_size hB_)); (case aL => have := LMc23.out; omega); intro v1422 w25 ho hb hg hat; rw [← Ny1421.out] at ho; replace HO_8 := Aside0.mk (Kd.R_over' (rr_ HO_8) (Kd.R_typed (rr_ HO_7)) (by decide) hg); replace HB := Aside0.mk hb; have HO1423 := Aside0.mk ho; clear HO_7; clear ho hb hg hat))
                  go_roundg k2
                  case measure => have := HK1.out; have := HK2.out; omega
                  case rel => exact ⟨(y1421), (x8_2), (wrap64 (x27_1 + 1)), qc_, H', ⟨by have := HK1.out; have := HK2.out; omega⟩, ⟨(rr_ HO1423)⟩, ⟨(rr_ HO_8)⟩, ⟨hB_⟩⟩
                · rw [if_neg c22] at H
                  have c22b0 : decide (0 < x10_2) = false := decide_eq_false c22
                  clear c22
                  have H' := Aside0.mk H
                  clear H
                  obtain ⟨Ao26, co26, eo26⟩ := Kd.R_slice HO_8.out
                  subst eo26
                  have p1420 : 0 ≤ (x11_2 : Int) := of_decide_eq_true qe_
                  have q1420 : x11_2 < (x8_2.length : Int) := of_decide_eq_true qe_
                  obtain ⟨ad1420, e1420, hx1420_0⟩ := Kd.at_bool (Kd.R_reads' HO_8.out).2.2 x11_2 p1420 q1420
                  (try rw [← Nbq20.out] at hx1420_0)
                  cases e1420
                  replace p1420 := eq_true p1420
                  replace q1420 := eq_true q1420
                  go_wp2
                  go_roundg k2
                  case measure => have := HK1.out; have := HK2.out; omega
                  case rel => exact ⟨(x7_1), (x8_2), (wrap64 (x27_1 + 1)), qc_, H', ⟨by have := HK1.out; have := HK2.out; omega⟩, ⟨(rr_ HO_7)⟩, ⟨(rr_ HO_8)⟩, ⟨hB_⟩⟩
              · replace c21 := Bool.eq_false_iff.mpr c21
                subst c21
                rw [if_neg (show ¬ (false = true) by decide)] at H
                obtain ⟨y1424, hy1424⟩ : ∃ y_ : List Bool, y_ = (x8_2.set (x11_2 : Int).toNat true) := ⟨_, rfl⟩
                rw [← hy1424] at H
                have Ny1424 := Aside0.mk hy1424
                clear hy1424
                have c28 := cp_ H
                replace H := ca_ H
                have c28b0 := decide_eq_true c28
                clear c28
                have H' := Aside0.mk H
                clear H
                obtain ⟨Ao29, co29, eo29⟩ := Kd.R_slice HO_8.out
                subst eo29
                have p1420 : 0 ≤ (x11_2 : Int) := of_decide_eq_true qe_
                have q1420 : x11_2 < (x8_2.length : Int) := of_decide_eq_true qe_
                obtain ⟨ad1420, e1420, hx1420_0⟩ := Kd.at_bool (Kd.R_reads' HO_8.out).2.2 x11_2 p1420 q1420
                (try rw [← Nbq20.out] at hx1420_0)
                cases e1420
                replace p1420 := eq_true p1420
                replace q1420 := eq_true q1420
                have p27 : 0 ≤ (x11_2 : Int) := of_decide_eq_true qe_
                have q27 : (x11_2 : Int) < ((x8_2.length : Int) : Int) := of_decide_eq_true qe_
                obtain ⟨go27, co27, eo27, gb27, gl27, cl27, HG27⟩ := Kd.R_form HO_8.out (by omega)
                (first | cases eo27 | (injection eo27 with ea_ en_ ec_; (first | subst ea_ | (injection ea_ with ea_; subst ea_)); subst ec_; clear en_))
                have GB27 := Aside0.mk gb27
                have GG27 := Aside0.mk HG27
                clear gb27 gl27 HG27
                (first | simp only [add_plain] at hx1420_0 | skip)
                obtain ⟨hx27_0, hf27_0⟩ := Kd.R_celln false HO_8.out (x11_2 : Int) p27 q27
                replace p27 := eq_true p27
                replace q27 := eq_true q27
                have HP30 := Kd.R_putg HO_8.out (x11_2 : Int) true
                go_wp2_with (first | ((with_reducible refine gate_store (t := 4) (p := 49) rfl ?_); refine store_event (t := 4) (p := 49) (v := ?vo_w31) (w1 := (wr.setCell ⟨go27, (x11_2 : Int).toNat, none⟩ (.bool true))) ?hg ?ho ?hn ?hr ?_; (case ho => rfl); (case hg => rfl); (case hn => rfl); (case hr => first | (go_simp; done) | (go_simp; rfl)); intro w31 hw; have hg : wr.grownBy w31 (some go27) := (by rw [hw]; exact HP30.2); have hp_ : Kd.R Kd.bool 4 w31 wz.heap.size (fun _ => True) (.slice (some ⟨go27, 0, none⟩) x8_2.length co29) y1424 := (by rw [hw, Ny1424.out]; exact HP30.1); clear HP30; replace HO_7 := Aside0.mk (Kd.R_over' (v := (.slice (some ⟨go27, 0, none⟩) x8_2.length co29)) (rr_ HO_7) (Kd.R_typed HO_8.out) (by decide) hg); replace HO_8 := Aside0.mk (hp_); replace HB := Aside0.mk ((by rw [hw]; exact below_set (HB.out) GB27.out : Below wz.heap.size wz w31)); clear hg hw hp_; have HHr := HH.out.below HB.out; have hco4 : w31.cell? ⟨gO, 4, none⟩ = some (.map (some gM)) := (blk_cell HHr.hO 4).trans rfl; have hfo4 := blk_frozen HHr.hO 4; have hlk := HLK.out w31 HHr.hM; have p1425 : 0 ≤ (x11_2 : Int) := of_decide_eq_true qe_; have q1425 : x11_2 < (s.T.length : Int) := of_decide_eq_true qe_; obtain ⟨ad1425, e1425, hx1425_0⟩ := Kd.at_int (Kd.R_reads' HHr.hT).2.2 x11_2 p1425 q1425; cases e1425; clear HHr; replace p1425 := eq_true p1425; replace q1425 := eq_true q1425))
                go_roundg k2
                case measure => have := HK1.out; have := HK2.out; omega
                case rel => exact ⟨(y1424), (wrap64 (x10_2 + 1)), (rd s.T x11_2), qc_, qc_, H', ⟨by have := HK1.out; have := HK2.out; omega⟩, ⟨(rr_ HO_7)⟩, ⟨(rr_ HO_8)⟩, ⟨hB_⟩⟩
        · rw [if_neg c17] at H
          have c17b0 := decide_eq_false c17
          clear c17
          obtain ⟨t1417, A32, H⟩ := bi_ H
          simp only [Option.some.injEq, Prod.mk.injEq] at H
          obtain ⟨rfl, rfl⟩ := H
          obtain ⟨Ao33, co33, eo33⟩ := Kd.R_slice HO_7.out
          subst eo33
          go_wp2_with (first | ((with_reducible refine gate_callee (f := 60) rfl ?_); refine gL_ (some 60) Try.func60 #[.slice Ao33 x7_1.length co33, .func (.func 61) #[] #[]] rfl qa_ ?_; (with_reducible refine (slices_SortFunc_int_int.calls (fun k_ => some k_ = (.slice Ao33 x7_1.length co33 : Value).ownBlock) (.slice Ao33 x7_1.length co33) x7_1 t1417 wz _ hB_ (Kd.R_tight rfl HO_7.out) A32.out).mono ?_); rintro e w34 ⟨rfl, hy0, hb, hkp⟩; refine ⟨_, rfl, ?_⟩; replace HO_7 := Aside0.mk (Kd.R_reok rfl hy0 (fun k_ e_ => HO_7.out.1 k_ e_)); replace HB := Aside0.mk hb; clear hb hkp hy0))
          go_ret2
          exact ⟨_, qb_, Kd.R_lower (Kd.R_mono (rr_ HO_7) (fun _ hk => trivial)) (below_size HB0.out), below_step HB0.out HB.out⟩
end Go.Proofs.Ytcggfjpnfodbaaa.A
end
section
namespace Go.Proofs.Ytcggfjpnfodbaaa.A
open Go.RowKit Go.Proofs.YtcggfjpnfodbaaaW.PrintWords Go.Proofs.YtcggfjpnfodbaaaW.PrintLast Go.Proofs.YtcggfjpnfodbaaaW.PrintMore
attribute [local go_sem] max2_int min2_int max_two min_two max_three min_three max_four min_four
set_option linter.unusedVariables false
set_option linter.unusedSimpArgs false
def laws_szIntS.f (l0 : List Int) (a1 : Int) : Option (Int) := if (wrap64 (a1 - (l0.length : Int))) < 0 then (some (-1)) else (some (wrap64 (a1 - (l0.length : Int))))
set_option maxHeartbeats 8000000 in
set_option maxRecDepth 100000 in
theorem laws_szIntS.calls (A0 : Option Addr) (c0 : Nat) (l0 : List Int) (a1 : Int) (r : Int) (w : World) (hr0 : Kd.C (Kd.int .i64) w A0 l0.length l0) (hc0 : l0.length ≤ c0) (h : laws_szIntS.f l0 a1 = some r) :
    Calls Try.prog 79 #[.slice A0 l0.length c0, .int .i64 a1] w fun e w' => e = .returned (.int .i64 r) ∧ Drawn0 w w' := by
  have HR0 := Aside0.mk hr0
  have HC0 := Aside0.mk hc0
  clear hr0 hc0
  have H := h
  unfold laws_szIntS.f at H
  clear h
  by_cases c3 : (wrap64 (a1 - (l0.length : Int))) < 0
  · rw [if_pos c3] at H
    have c3b0 := decide_eq_true c3
    clear c3
    obtain rfl := Option.some.inj H
    go_enter Try.func79, Try.ntmps79
    go_wp2
    go_ret
    exact ⟨qc_, by repeat (first | exact Drawn0.refl _ | apply Drawn0.step)⟩
  · rw [if_neg c3] at H
    have c3b0 := decide_eq_false c3
    clear c3
    obtain rfl := Option.some.inj H
    go_enter Try.func79, Try.ntmps79
    go_wp2
    go_ret
    exact ⟨qc_, by repeat (first | exact Drawn0.refl _ | apply Drawn0.step)⟩
end Go.Proofs.Ytcggfjpnfodbaaa.A
end
section
namespace Go.Proofs.Ytcggfjpnfodbaaa.A
open Go.RowKit Go.Proofs.YtcggfjpnfodbaaaW.PrintWords Go.Proofs.YtcggfjpnfodbaaaW.PrintLast Go.Proofs.YtcggfjpnfodbaaaW.PrintMore
attribute [local go_sem] max2_int min2_int max_two min_two max_three min_three max_four min_four
set_option linter.unusedVariables false
set_option linter.unusedSimpArgs false
def laws_szSurface.f (l0_0 : List Int) (l0_1 : List Int) (a1 : Int) : Option (Int) := (laws_szIntS.f l0_0 a1).bind fun t718 => (if t718 < 0 then (some (-1)) else ((laws_szIntS.f l0_1 t718).bind fun t719 => (if t719 < 0 then (some (-1)) else (some t719))))
set_option maxHeartbeats 8000000 in
set_option maxRecDepth 100000 in
theorem laws_szSurface.calls (A0_0 : Option Addr) (c0_0 : Nat) (l0_0 : List Int) (A0_1 : Option Addr) (c0_1 : Nat) (l0_1 : List Int) (a1 : Int) (r : Int) (w : World) (hr0_0 : Kd.C (Kd.int .i64) w A0_0 l0_0.length l0_0) (hc0_0 : l0_0.length ≤ c0_0) (hr0_1 : Kd.C (Kd.int .i64) w A0_1 l0_1.length l0_1) (hc0_1 : l0_1.length ≤ c0_1) (h : laws_szSurface.f l0_0 l0_1 a1 = some r) :
    Calls Try.prog 31 #[.agg #[.slice A0_0 l0_0.length c0_0, .slice A0_1 l0_1.length c0_1], .int .i64 a1] w fun e w' => e = .returned (.int .i64 r) ∧ Below w.heap.size w w' := by
  have hu44 := Try.underlying44
  have HR0_0 := Aside0.mk hr0_0
  have HC0_0 := Aside0.mk hc0_0
  clear hr0_0 hc0_0
  have HR0_1 := Aside0.mk hr0_1
  have HC0_1 := Aside0.mk hc0_1
  clear hr0_1 hc0_1
  have HB := Aside0.mk (Below.refl w.heap.size w)
  have H := h
  unfold laws_szSurface.f at H
  clear h
  obtain ⟨t718, A3, H⟩ := bi_ H
  by_cases c4 : t718 < 0
  · rw [if_pos c4] at H
    have c4b0 := decide_eq_true c4
    clear c4
    obtain rfl := Option.some.inj H
    go_enter Try.func31, Try.ntmps31
    go_wp2_with (first | ((with_reducible refine gate_dst (N := 2) rfl ?_); refine bx_ 2 #[.slice A0_0 l0_0.length c0_0, .slice A0_1 l0_1.length c0_1] 44 ?_; intro gb717 hg w5 hbox hb; have BK717 := Aside0.mk hbox; have GW717 := gw_ w hg; have GE717 := GW717; replace HB := b1_ hb; clear hb hbox hg; obtain ⟨hcz6_0, hcz6_1, hfz6_0, hfz6_1⟩ := c2_ BK717) | ((with_reducible refine gate_callee (f := 79) rfl ?_); refine gL_ (some 8) Try.func79 #[.slice A0_0 l0_0.length c0_0, .int .i64 a1] rfl qa_ ?_; (with_reducible refine (laws_szIntS.calls _ _ l0_0 a1 t718 _ (cb_ HR0_0) HC0_0.out A3.out).mono ?_); rintro e w' ⟨rfl, ⟨nd, rfl⟩⟩; refine ⟨_, rfl, ?_⟩))
    go_ret
    exact ⟨qb_, hB_⟩
  · rw [if_neg c4] at H
    have c4b0 := decide_eq_false c4
    clear c4
    obtain ⟨t719, A7, H⟩ := bi_ H
    by_cases c8 : t719 < 0
    · rw [if_pos c8] at H
      have c8b0 := decide_eq_true c8
      clear c8
      obtain rfl := Option.some.inj H
      go_enter Try.func31, Try.ntmps31
      go_wp2_with (first | ((with_reducible refine gate_dst (N := 2) rfl ?_); refine bx_ 2 #[.slice A0_0 l0_0.length c0_0, .slice A0_1 l0_1.length c0_1] 44 ?_; intro gb717 hg w9 hbox hb; have BK717 := Aside0.mk hbox; have GW717 := gw_ w hg; have GE717 := GW717; replace HB := b1_ hb; clear hb hbox hg; obtain ⟨hcz10_0, hcz10_1, hfz10_0, hfz10_1⟩ := c2_ BK717) | ((with_reducible refine gate_callee (f := 79) rfl ?_); refine gL_ (some 8) Try.func79 #[.slice A0_0 l0_0.length c0_0, .int .i64 a1] rfl qa_ ?_; (with_reducible refine (laws_szIntS.calls _ _ l0_0 a1 t718 _ (cb_ HR0_0) HC0_0.out A3.out).mono ?_); rintro e w' ⟨rfl, ⟨nd, rfl⟩⟩; refine ⟨_, rfl, ?_⟩) | ((with_reducible refine gate_callee (f := 79) rfl ?_); refine gL_ (some 14) Try.func79 #[.slice A0_1 l0_1.length c0_1, .int .i64 t718] rfl qa_ ?_; (with_reducible refine (laws_szIntS.calls _ _ l0_1 t718 t719 _ (cw_ (Kd.C_below HR0_1.out hB_)) HC0_1.out A7.out).mono ?_); rintro e w' ⟨rfl, ⟨nd, rfl⟩⟩; refine ⟨_, rfl, ?_⟩))
      go_ret
      exact ⟨qb_, hB_⟩
    · rw [if_neg c8] at H
      have c8b0 := decide_eq_false c8
      clear c8
      obtain rfl := Option.some.inj H
      go_enter Try.func31, Try.ntmps31
      go_wp2_with (first | ((with_reducible refine gate_dst (N := 2) rfl ?_); refine bx_ 2 #[.slice A0_0 l0_0.length c0_0, .slice A0_1 l0_1.length c0_1] 44 ?_; intro gb717 hg w11 hbox hb; have BK717 := Aside0.mk hbox; have GW717 := gw_ w hg; have GE717 := GW717; replace HB := b1_ hb; clear hb hbox hg; obtain ⟨hcz12_0, hcz12_1, hfz12_0, hfz12_1⟩ := c2_ BK717) | ((with_reducible refine gate_callee (f := 79) rfl ?_); refine gL_ (some 8) Try.func79 #[.slice A0_0 l0_0.length c0_0, .int .i64 a1] rfl qa_ ?_; (with_reducible refine (laws_szIntS.calls _ _ l0_0 a1 t718 _ (cb_ HR0_0) HC0_0.out A3.out).mono ?_); rintro e w' ⟨rfl, ⟨nd, rfl⟩⟩; refine ⟨_, rfl, ?_⟩) | ((with_reducible refine gate_callee (f := 79) rfl ?_); refine gL_ (some 14) Try.func79 #[.slice A0_1 l0_1.length c0_1, .int .i64 t718] rfl qa_ ?_; (with_reducible refine (laws_szIntS.calls _ _ l0_1 t718 t719 _ (cw_ (Kd.C_below HR0_1.out hB_)) HC0_1.out A7.out).mono ?_); rintro e w' ⟨rfl, ⟨nd, rfl⟩⟩; refine ⟨_, rfl, ?_⟩))
      go_ret
      exact ⟨qb_, hB_⟩
end Go.Proofs.Ytcggfjpnfodbaaa.A
end
section
namespace Go.Proofs.Ytcggfjpnfodbaaa.A
open Go.RowKit Go.Proofs.YtcggfjpnfodbaaaW.PrintWords Go.Proofs.YtcggfjpnfodbaaaW.PrintLast Go.Proofs.YtcggfjpnfodbaaaW.PrintMore
attribute [local go_sem] max2_int min2_int max_two min_two max_three min_three max_four min_four
set_option linter.unusedVariables false
set_option linter.unusedSimpArgs false
def laws_toIntS.l0 : Nat → List Int → List Int → Int → Option (List Int)
  | 0, _, _, _ => none
  | k + 1, x0, x3, x4 => if x4 < (x0.length : Int) then (if 0 ≤ x4 then (if x4 < (x3.length : Int) then (laws_toIntS.l0 k x0 (x3.set (x4 : Int).toNat (rd x0 x4)) (wrap64 (x4 + 1))) else (none)) else (none)) else (some x3)
def laws_toIntS.f (k : Nat) (l0 : List Int) : Option (List Int) := if 0 ≤ (l0.length : Int) then (if ((l0.length : Int) : Int).toNat ≤ 35184372088832 then (laws_toIntS.l0 k l0 (List.replicate ((l0.length : Int) : Int).toNat 0) 0) else (none)) else (none)
theorem laws_toIntS.mono_l : ∀ k, (∀ y0 y1 y2, LeO (laws_toIntS.l0 k y0 y1 y2) (laws_toIntS.l0 (k + 1) y0 y1 y2))
  | 0 => fun _ _ _ r h => by simp [laws_toIntS.l0] at h
  | k + 1 => by
    have ih0 := laws_toIntS.mono_l k
    · intro y0 y1 y2
      unfold laws_toIntS.l0
      repeat' first|exact ih0 _ _ _|exact lo_|refine LeO.ite ?_ ?_|refine LeO.bind ?_ (fun _ => ?_)
theorem laws_toIntS.mono : ∀ a0 k, LeO (laws_toIntS.f k a0) (laws_toIntS.f (k + 1) a0) := by
  intro a0 k
  have ih0 := laws_toIntS.mono_l k
  unfold laws_toIntS.f
  repeat' first|exact ih0 _ _ _|exact lo_|refine LeO.ite ?_ ?_|refine LeO.bind ?_ (fun _ => ?_)
set_option maxHeartbeats 8000000 in
set_option maxRecDepth 100000 in
theorem laws_toIntS.calls (k : Nat) (A0 : Option Addr) (c0 : Nat) (l0 : List Int) (r : List Int) (w : World) (hr0 : Kd.C (Kd.int .i64) w A0 l0.length l0) (hc0 : l0.length ≤ c0) (h : laws_toIntS.f k l0 = some r) :
    Calls Try.prog 83 #[.slice A0 l0.length c0] w fun e w' => ∃ v0_ : Value, e = .returned (v0_) ∧ Kd.R (Kd.int .i64) 3 w' w.heap.size (fun _ => True) v0_ r ∧ Below w.heap.size w w' := by
  have HR0 := Aside0.mk hr0
  have HC0 := Aside0.mk hc0
  clear hr0 hc0
  have HB := Aside0.mk (Below.refl w.heap.size w)
  have H := h
  unfold laws_toIntS.f at H
  clear h
  have c2 := cp_ H
  replace H := ca_ H
  have c2b0 := eq_true c2
  have c2b1 := decide_eq_true c2
  clear c2
  have c3 := cp_ H
  replace H := ca_ H
  have c3b0 := eq_true c3
  have c3b1 := decide_eq_true c3
  clear c3
  obtain ⟨y934, hy934⟩ : ∃ y_ : List Int, y_ = (List.replicate ((l0.length : Int) : Int).toNat 0) := ⟨_, rfl⟩
  replace H : (laws_toIntS.l0 k l0 y934 0) = some r := by first | (rw [hy934]; exact H) | exact H
  have Ny934 := Aside0.mk hy934
  clear hy934
  have H' := Aside0.mk H
  clear H
  go_enter Try.func83, Try.ntmps83
  go_wp2_with (first | ((with_reducible refine gate_dst (N := 7) rfl ?_); refine Kd.R_make (Kd.int .i64) _ 3 rfl (N := 7) rfl 23 _ _ rfl (l0.length : Int) rfl rfl Try.underlying23 (.int .i64 0) 8 info3 rfl (by decide) (by omega) 0 (ok := fun _ => True) (okp := fun _ => True) rfl (fun _ hk => hk) trivial (of_decide_eq_true qe_) (Nat.le_trans (Nat.mul_le_mul_right _ (of_decide_eq_true qe_ : (l0.length : Int).toNat ≤ 35184372088832)) (by omega)) (Below.refl _ _) (Nat.le_refl _) ?_; intro v935 w4 ho5 hb hg_ hnew_; clear hg_ hnew_; (first | rw [← Ny934.out] at ho5 | (simp only [Int.reduceToNat] at ho5; rw [← Ny934.out] at ho5)); have HO936 := rl_ w ho5; replace HB := b1_ hb; clear hb ho5))
  go_loopg [4] k (fun kq v4 w' => ∃ (x3_1 : List Int) (x4_1 : Int), v4 = .int .i64 x4_1 ∧ Aside0 (laws_toIntS.l0 kq l0 x3_1 x4_1 = some r) ∧ Aside0 (kq ≤ k) ∧ Aside0 (Kd.R (Kd.int .i64) 3 w' w.heap.size (fun _ => True) v935 x3_1) ∧ Aside0 (Below w.heap.size w w'))
  case atStart => exact ⟨(y934), (0), qc_, H', ⟨Nat.le_refl _⟩, ⟨(rr_ HO936)⟩, ⟨hB_⟩⟩
  case round =>
    clear H'
    obtain ⟨x3_1, x4_1, rfl, HA, HK1, HO_3, HB⟩ := hrel
    cases gk with
    | zero => exact absurd HA.out (by simp [laws_toIntS.l0])
    | succ k1 =>
      have H := HA.out
      clear HA
      simp only [laws_toIntS.l0] at H
      by_cases c6 : x4_1 < (l0.length : Int)
      · rw [if_pos c6] at H
        have c6b0 := decide_eq_true c6
        clear c6
        have c7 := cp_ H
        replace H := ca_ H
        have c7b0 := decide_eq_true c7
        clear c7
        have c8 := cp_ H
        replace H := ca_ H
        have c8b0 := decide_eq_true c8
        clear c8
        obtain ⟨y938, hy938⟩ : ∃ y_ : List Int, y_ = (x3_1.set (x4_1 : Int).toNat (rd l0 x4_1)) := ⟨_, rfl⟩
        replace H : (laws_toIntS.l0 k1 l0 y938 (wrap64 (x4_1 + 1))) = some r := by first | (rw [hy938]; exact H) | exact H
        have Ny938 := Aside0.mk hy938
        clear hy938
        have H' := Aside0.mk H
        clear H
        have p937 : 0 ≤ (x4_1 : Int) := of_decide_eq_true qe_
        have q937 : x4_1 < (l0.length : Int) := of_decide_eq_true qe_
        obtain ⟨ad937, e937, hx937_0⟩ := Kd.at_int HR0.out x4_1 p937 q937
        cases e937
        replace hx937_0 := (HB.out.cell (World.block_lt_of_cell? w _ hx937_0)).trans hx937_0
        replace p937 := eq_true p937
        replace q937 := eq_true q937
        have p9 : 0 ≤ (x4_1 : Int) := of_decide_eq_true qe_
        have q9 : (x4_1 : Int) < ((x3_1.length : Int) : Int) := of_decide_eq_true qe_
        obtain ⟨go9, co9, eo9, gb9, gl9, cl9, HG9⟩ := Kd.R_form HO_3.out (by omega)
        (first | cases eo9 | (injection eo9 with ea_ en_ ec_; (first | subst ea_ | (injection ea_ with ea_; subst ea_)); subst ec_; clear en_))
        have GB9 := Aside0.mk gb9
        have GG9 := Aside0.mk HG9
        clear gb9 gl9 HG9
        obtain ⟨hx9_0, hf9_0⟩ := Kd.R_celln 0 HO_3.out (x4_1 : Int) p9 q9
        replace p9 := eq_true p9
        replace q9 := eq_true q9
        have HP10 := Kd.R_putg HO_3.out (x4_1 : Int) (rd l0 x4_1)
        go_wp2_with (first | ((with_reducible refine gate_store (t := 3) (p := 20) rfl ?_); refine store_event (t := 3) (p := 20) (v := ?vo_w11) (w1 := (wr.setCell ⟨go9, (x4_1 : Int).toNat, none⟩ (.int .i64 (rd l0 x4_1)))) ?hg ?ho ?hn ?hr ?_; (case ho => rfl); (case hg => rfl); (case hn => rfl); (case hr => first | (go_simp; done) | (go_simp; rfl)); intro w11 hw; have hg : wr.grownBy w11 (some go9) := (by rw [hw]; exact HP10.2); have hp_ : Kd.R (Kd.int .i64) 3 w11 w.heap.size (fun _ => True) (.slice (some ⟨go9, 0, none⟩) x3_1.length co9) y938 := (by rw [hw, Ny938.out]; exact HP10.1); clear HP10; replace HO_3 := Aside0.mk (hp_); replace HB := Aside0.mk ((by rw [hw]; exact below_set (HB.out) GB9.out : Below w.heap.size w w11)); clear hg hw hp_))
        go_roundg k1
        case measure => have := HK1.out; omega
        case rel => exact ⟨(y938), (wrap64 (x4_1 + 1)), qc_, H', ⟨by have := HK1.out; omega⟩, ⟨(rr_ HO_3)⟩, ⟨hB_⟩⟩
      · rw [if_neg c6] at H
        have c6b0 := decide_eq_false c6
        clear c6
        obtain rfl := Option.some.inj H
        go_wp2
        go_ret
        exact ⟨_, qb_, (rr_ HO_3), hB_⟩
end Go.Proofs.Ytcggfjpnfodbaaa.A
end
section
namespace Go.Proofs.Ytcggfjpnfodbaaa.A
open Go.RowKit Go.Proofs.YtcggfjpnfodbaaaW.PrintWords Go.Proofs.YtcggfjpnfodbaaaW.PrintLast Go.Proofs.YtcggfjpnfodbaaaW.PrintMore
attribute [local go_sem] max2_int min2_int max_two min_two max_three min_three max_four min_four
set_option linter.unusedVariables false
set_option linter.unusedSimpArgs false
def laws_toSurface.f (k : Nat) (l0_0 : List Int) (l0_1 : List Int) : Option (List Int × List Int) := (laws_toIntS.f k l0_0).bind fun t942 => ((laws_toIntS.f k l0_1).bind fun t945 => (some (t942, t945)))
theorem laws_toSurface.mono : ∀ a0 a1 k, LeO (laws_toSurface.f k a0 a1) (laws_toSurface.f (k + 1) a0 a1) := by
  intro a0 a1 k
  unfold laws_toSurface.f
  repeat' first|exact laws_toIntS.mono _ _|exact lo_|refine LeO.ite ?_ ?_|refine LeO.bind ?_ (fun _ => ?_)
set_option maxHeartbeats 8000000 in
set_option maxRecDepth 100000 in
theorem laws_toSurface.calls (k : Nat) (A0_0 : Option Addr) (c0_0 : Nat) (l0_0 : List Int) (A0_1 : Option Addr) (c0_1 : Nat) (l0_1 : List Int) (r1 : List Int) (r2 : List Int) (w : World) (hr0_0 : Kd.C (Kd.int .i64) w A0_0 l0_0.length l0_0) (hc0_0 : l0_0.length ≤ c0_0) (hr0_1 : Kd.C (Kd.int .i64) w A0_1 l0_1.length l0_1) (hc0_1 : l0_1.length ≤ c0_1) (h : laws_toSurface.f k l0_0 l0_1 = some (r1, r2)) :
    Calls Try.prog 33 #[.agg #[.slice A0_0 l0_0.length c0_0, .slice A0_1 l0_1.length c0_1]] w fun e w' => ∃ v0_ v1_ : Value, e = .returned (.agg #[v0_, v1_]) ∧ Kd.R (Kd.int .i64) 3 w' w.heap.size (fun k_ => some k_ ≠ (v1_ : Value).ownBlock) v0_ r1 ∧ Kd.R (Kd.int .i64) 3 w' w.heap.size (fun k_ => some k_ ≠ (v0_ : Value).ownBlock) v1_ r2 ∧ Below w.heap.size w w' := by
  have hu44 := Try.underlying44
  have hu25 := Try.underlying25
  have HR0_0 := Aside0.mk hr0_0
  have HC0_0 := Aside0.mk hc0_0
  clear hr0_0 hc0_0
  have HR0_1 := Aside0.mk hr0_1
  have HC0_1 := Aside0.mk hc0_1
  clear hr0_1 hc0_1
  have HB := Aside0.mk (Below.refl w.heap.size w)
  have H := h
  unfold laws_toSurface.f at H
  clear h
  obtain ⟨t942, A2, H⟩ := bi_ H
  obtain ⟨t945, A3, H⟩ := bi_ H
  simp only [Option.some.injEq, Prod.mk.injEq] at H
  obtain ⟨rfl, rfl⟩ := H
  go_enter Try.func33, Try.ntmps33
  go_wp2_with (first | ((with_reducible refine gate_dst (N := 1) rfl ?_); refine bx_ 1 #[.slice A0_0 l0_0.length c0_0, .slice A0_1 l0_1.length c0_1] 44 ?_; intro gb939 hg w4 hbox hb; have BK939 := Aside0.mk hbox; have GW939 := gw_ w hg; have GE939 := GW939; replace HB := b1_ hb; clear hb hbox hg) | ((with_reducible refine gate_dst (N := 2) rfl ?_); refine bx_ 2 #[.slice none 0 0, .slice none 0 0] 25 ?_; intro gb940 hg w5 hbox hb; have BK940 := Aside0.mk hbox; have GW940 := gw_ w hg; have GE940 := GW940; replace HB := b1_ hb; have NB939_940 := gN_ BK939 hg; have NB940_939 := gP_ BK939 hg; replace BK939 := bb_ BK939 hb; clear hb hbox hg) | ((with_reducible refine gate_dst (N := 3) rfl ?_); refine bx_ 3 #[.slice none 0 0, .slice none 0 0] 25 ?_; intro gb941 hg w6 hbox hb; have BK941 := Aside0.mk hbox; have GW941 := gw_ w hg; have GE941 := GW941; replace HB := b1_ hb; have NB939_941 := gN_ BK939 hg; have NB941_939 := gP_ BK939 hg; replace BK939 := bb_ BK939 hb; have NB940_941 := gN_ BK940 hg; have NB941_940 := gP_ BK940 hg; replace BK940 := bb_ BK940 hb; clear hb hbox hg; have hnb7 := NB939_940.out; have hnc7 := NB940_939.out; have hnb8 := NB939_941.out; have hnc8 := NB941_939.out; obtain ⟨hcz9_0, hcz9_1, hfz9_0, hfz9_1⟩ := c2_ BK939) | ((with_reducible refine gate_callee (f := 83) rfl ?_); refine gL_ (some 6) Try.func83 #[.slice A0_0 l0_0.length c0_0] rfl qa_ ?_; (with_reducible refine (laws_toIntS.calls k _ _ l0_0 t942 _ (cb_ HR0_0) HC0_0.out A2.out).mono ?_); rintro e w10 ⟨v943, rfl, ho0, hb⟩; refine ⟨_, rfl, ?_⟩; have HO944 := rl_ w ho0; replace BK939 := bb_ BK939 hb; replace BK940 := bb_ BK940 hb; replace BK941 := bb_ BK941 hb; replace HB := b1_ hb; clear hb ho0; obtain ⟨Ao11, co11, eo11⟩ := Kd.R_slice HO944.out; subst eo11; have hnb12 := NB941_940.out; have hnc12 := NB940_941.out; obtain ⟨hcz13_0, hcz13_1, hfz13_0, hfz13_1⟩ := c2_ BK941; obtain ⟨hcz14_0, hcz14_1, hfz14_0, hfz14_1⟩ := c2_ BK939) | ((with_reducible refine gate_callee (f := 83) rfl ?_); refine gL_ (some 10) Try.func83 #[.slice A0_1 l0_1.length c0_1] rfl qa_ ?_; (with_reducible refine (laws_toIntS.calls k _ _ l0_1 t945 _ (Kd.C_below HR0_1.out hB_) HC0_1.out A3.out).mono ?_); rintro e w15 ⟨v946, rfl, ho0, hb⟩; refine ⟨_, rfl, ?_⟩; have HO947 := Aside0.mk (Kd.R_lower (Kd.R_new' ho0 (Kd.R_lt (rw_ (Kd.R_mono (Kd.R_far (p := ⟨gb941, 0, none⟩) (Kd.R_types HO944.out BK941.out (by decide)) (fun _ hk => hk.2) (.slice Ao11 t942.length co11)) (fun _ h_ => h_.1))))) (below_size hB_)); replace HO944 := Aside0.mk (Kd.R_elder' (rw_ (Kd.R_mono (Kd.R_far (p := ⟨gb941, 0, none⟩) (Kd.R_types HO944.out BK941.out (by decide)) (fun _ hk => hk.2) (.slice Ao11 t942.length co11)) (fun _ h_ => h_.1))) (Kd.R_base ho0) hb); replace BK939 := Aside0.mk (blk_below (g := gb939) (o := .cells #[.slice A0_0 l0_0.length c0_0, .slice A0_1 l0_1.length c0_1] 44 (0, 0)) (by (with_reducible repeat (first | refine blk_drewN ?_ _ | refine blk_drew ?_ | refine blk_alloc ?_ _)); refine blk_far ?_ NB939_941.out _; (with_reducible repeat (first | refine blk_drewN ?_ _ | refine blk_drew ?_ | refine blk_alloc ?_ _)); exact BK939.out) hb); replace BK940 := Aside0.mk (blk_below (g := gb940) (o := .cells #[.slice none 0 0, .slice none 0 0] 25 (0, 0)) (by (with_reducible repeat (first | refine blk_drewN ?_ _ | refine blk_drew ?_ | refine blk_alloc ?_ _)); refine blk_far ?_ NB940_941.out _; (with_reducible repeat (first | refine blk_drewN ?_ _ | refine blk_drew ?_ | refine blk_alloc ?_ _)); exact BK940.out) hb); replace BK941 := Aside0.mk (blk_below (g := gb941) (o := .cells #[.slice Ao11 t942.length co11, .slice none 0 0] 25 (0, 0)) (by (with_reducible repeat (first | refine blk_drewN ?_ _ | refine blk_drew ?_ | refine blk_alloc ?_ _)); refine blk_put (cs := #[.slice none 0 0, .slice none 0 0]) ?_ 0 _ rfl; (with_reducible repeat (first | refine blk_drewN ?_ _ | refine blk_drew ?_ | refine blk_alloc ?_ _)); exact BK941.out) hb); replace HB := b1_ hb; clear hb ho0; obtain ⟨Ao16, co16, eo16⟩ := Kd.R_slice HO947.out; subst eo16; obtain ⟨hcz17_0, hcz17_1, hfz17_0, hfz17_1⟩ := c2_ BK941; obtain ⟨hcz18_0, hcz18_1, hfz18_0, hfz18_1⟩ := c2_ BK940))
  refine bodyPost_ret (results_cell_row rfl _ _ gb940 25 #[.slice Ao11 t942.length co11, .slice Ao16 t945.length co16] (0, 0) _ rfl (by (with_reducible repeat (first | refine blk_drewN ?_ _ | refine blk_drew ?_ | refine blk_alloc ?_ _)); refine blk_put (cs := #[.slice Ao11 t942.length co11, .slice none 0 0]) ?_ 1 _ rfl; (with_reducible repeat (first | refine blk_drewN ?_ _ | refine blk_drew ?_ | refine blk_alloc ?_ _)); refine blk_put (cs := #[.slice none 0 0, .slice none 0 0]) ?_ 0 _ rfl; (with_reducible repeat (first | refine blk_drewN ?_ _ | refine blk_drew ?_ | refine blk_alloc ?_ _)); refine blk_far ?_ NB940_941.out _; (with_reducible repeat (first | refine blk_drewN ?_ _ | refine blk_drew ?_ | refine blk_alloc ?_ _)); exact BK940.out) Try.underlying25 rfl (by kernel_rfl)) rfl ?_
  exact ⟨_, _, qb_, (rw_ (Kd.R_mono (Kd.R_far (p := ⟨gb940, 1, none⟩) (Kd.R_far (p := ⟨gb940, 0, none⟩) (Kd.R_far (p := ⟨gb941, 1, none⟩) (Kd.R_types (Kd.R_types HO944.out BK941.out (by decide)) BK940.out (by decide)) (fun _ hk => hk.1.2) (.slice Ao16 t945.length co16)) (fun _ hk => hk.2) (.slice Ao11 t942.length co11)) (fun _ hk => hk.2) (.slice Ao16 t945.length co16)) (fun _ hk => hk.1.1.2))), (rw_ (Kd.R_mono (Kd.R_far (p := ⟨gb940, 1, none⟩) (Kd.R_far (p := ⟨gb940, 0, none⟩) (Kd.R_far (p := ⟨gb941, 1, none⟩) (Kd.R_types (Kd.R_types HO947.out BK941.out (by decide)) BK940.out (by decide)) (fun _ hk => hk.1.2) (.slice Ao16 t945.length co16)) (fun _ hk => hk.2) (.slice Ao11 t942.length co11)) (fun _ hk => hk.2) (.slice Ao16 t945.length co16)) (fun _ hk => hk.1.1.2))), hB_⟩
end Go.Proofs.Ytcggfjpnfodbaaa.A
end
section
namespace Go.Proofs.Ytcggfjpnfodbaaa.A
open Go.RowKit Go.Proofs.YtcggfjpnfodbaaaW.PrintWords Go.Proofs.YtcggfjpnfodbaaaW.PrintLast Go.Proofs.YtcggfjpnfodbaaaW.PrintMore
attribute [local go_sem] max2_int min2_int max_two min_two max_three min_three max_four min_four
set_option linter.unusedVariables false
set_option linter.unusedSimpArgs false
def laws_eqIntS.l0 : Nat → List Int → List Int → Int → Option (Bool)
  | 0, _, _, _ => none
  | k + 1, x0, x1, x5 => if x5 < (x0.length : Int) then (if 0 ≤ x5 then (if x5 < (x1.length : Int) then (if (rd x0 x5) = (rd x1 x5) then (laws_eqIntS.l0 k x0 x1 (wrap64 (x5 + 1))) else (some false)) else (none)) else (none)) else (some true)
def laws_eqIntS.f (k : Nat) (l0 : List Int) (l1 : List Int) : Option (Bool) := if (l0.length : Int) = (l1.length : Int) then (laws_eqIntS.l0 k l0 l1 0) else (some false)
theorem laws_eqIntS.mono_l : ∀ k, (∀ y0 y1 y2, LeO (laws_eqIntS.l0 k y0 y1 y2) (laws_eqIntS.l0 (k + 1) y0 y1 y2))
  | 0 => fun _ _ _ r h => by simp [laws_eqIntS.l0] at h
  | k + 1 => by
    have ih0 := laws_eqIntS.mono_l k
    · intro y0 y1 y2
      unfold laws_eqIntS.l0
      repeat' first|exact ih0 _ _ _|exact lo_|refine LeO.ite ?_ ?_|refine LeO.bind ?_ (fun _ => ?_)
theorem laws_eqIntS.mono : ∀ a0 a1 k, LeO (laws_eqIntS.f k a0 a1) (laws_eqIntS.f (k + 1) a0 a1) := by
  intro a0 a1 k
  have ih0 := laws_eqIntS.mono_l k
  unfold laws_eqIntS.f
  repeat' first|exact ih0 _ _ _|exact lo_|refine LeO.ite ?_ ?_|refine LeO.bind ?_ (fun _ => ?_)
set_option maxHeartbeats 8000000 in
set_option maxRecDepth 100000 in
theorem laws_eqIntS.calls (k : Nat) (A0 : Option Addr) (c0 : Nat) (l0 : List Int) (A1 : Option Addr) (c1 : Nat) (l1 : List Int) (r : Bool) (w : World) (hr0 : Kd.C (Kd.int .i64) w A0 l0.length l0) (hc0 : l0.length ≤ c0) (hr1 : Kd.C (Kd.int .i64) w A1 l1.length l1) (hc1 : l1.length ≤ c1) (h : laws_eqIntS.f k l0 l1 = some r) :
    Calls Try.prog 54 #[.slice A0 l0.length c0, .slice A1 l1.length c1] w fun e w' => e = .returned (.bool r) ∧ Drawn0 w w' := by
  have HR0 := Aside0.mk hr0
  have HC0 := Aside0.mk hc0
  clear hr0 hc0
  have HR1 := Aside0.mk hr1
  have HC1 := Aside0.mk hc1
  clear hr1 hc1
  have H := h
  unfold laws_eqIntS.f at H
  clear h
  by_cases c3 : (l0.length : Int) = (l1.length : Int)
  · rw [if_pos c3] at H
    have c3b0 : ((l0.length : Int) == (l1.length : Int)) = true := beq_iff_eq.mpr c3
    have c3b1 : ((l0.length : Int) != (l1.length : Int)) = false := bne_eq_false_iff_eq.mpr c3
    have c3b2 : (l0.length == l1.length) = true := by first | simpa using c3 | (simp at c3 ⊢; omega)
    clear c3
    have H' := Aside0.mk H
    clear H
    go_enter Try.func54, Try.ntmps54
    go_wp2
    repeat (go_quiet (fail); try go_wp2)
    go_loopg [5] k (fun kq v5 w' => ∃ (x5_1 : Int), v5 = .int .i64 x5_1 ∧ Aside0 (laws_eqIntS.l0 kq l0 l1 x5_1 = some r) ∧ Aside0 (kq ≤ k) ∧ Drawn0 w w')
    case atStart => exact ⟨(0), qc_, H', ⟨Nat.le_refl _⟩, by repeat (first | exact Drawn0.refl _ | apply Drawn0.step)⟩
    case round =>
      clear H'
      obtain ⟨x5_1, rfl, HA, HK1, ⟨m1, rfl⟩⟩ := hrel
      cases gk with
      | zero => exact absurd HA.out (by simp [laws_eqIntS.l0])
      | succ k1 =>
        have H := HA.out
        clear HA
        simp only [laws_eqIntS.l0] at H
        by_cases c4 : x5_1 < (l0.length : Int)
        · rw [if_pos c4] at H
          have c4b0 := decide_eq_true c4
          clear c4
          have c5 := cp_ H
          replace H := ca_ H
          have c5b0 := decide_eq_true c5
          clear c5
          have c6 := cp_ H
          replace H := ca_ H
          have c6b0 := decide_eq_true c6
          clear c6
          by_cases c7 : (rd l0 x5_1) = (rd l1 x5_1)
          · rw [if_pos c7] at H
            have c7b0 : ((rd l0 x5_1) == (rd l1 x5_1)) = true := beq_iff_eq.mpr c7
            have c7b1 : ((rd l0 x5_1) != (rd l1 x5_1)) = false := bne_eq_false_iff_eq.mpr c7
            clear c7
            have H' := Aside0.mk H
            clear H
            have p948 : 0 ≤ (x5_1 : Int) := of_decide_eq_true qe_
            have q948 : x5_1 < (l0.length : Int) := of_decide_eq_true qe_
            obtain ⟨ad948, e948, hx948_0⟩ := Kd.at_int HR0.out x5_1 p948 q948
            cases e948
            replace p948 := eq_true p948
            replace q948 := eq_true q948
            have p949 : 0 ≤ (x5_1 : Int) := of_decide_eq_true qe_
            have q949 : x5_1 < (l1.length : Int) := of_decide_eq_true qe_
            obtain ⟨ad949, e949, hx949_0⟩ := Kd.at_int HR1.out x5_1 p949 q949
            cases e949
            replace p949 := eq_true p949
            replace q949 := eq_true q949
            go_wp2
            repeat (go_quiet (fail); try go_wp2)
            go_roundg k1
            case measure => have := HK1.out; omega
            case rel => exact ⟨(wrap64 (x5_1 + 1)), qc_, H', ⟨by have := HK1.out; omega⟩, by repeat (first | exact Drawn0.refl _ | apply Drawn0.step)⟩
          · rw [if_neg c7] at H
            have c7b0 : ((rd l0 x5_1) == (rd l1 x5_1)) = false := beq_eq_false_iff_ne.mpr c7
            have c7b1 : ((rd l0 x5_1) != (rd l1 x5_1)) = true := bne_iff_ne.mpr c7
            obtain rfl := Option.some.inj H
            have p948 : 0 ≤ (x5_1 : Int) := of_decide_eq_true qe_
            have q948 : x5_1 < (l0.length : Int) := of_decide_eq_true qe_
            obtain ⟨ad948, e948, hx948_0⟩ := Kd.at_int HR0.out x5_1 p948 q948
            cases e948
            replace p948 := eq_true p948
            replace q948 := eq_true q948
            have p949 : 0 ≤ (x5_1 : Int) := of_decide_eq_true qe_
            have q949 : x5_1 < (l1.length : Int) := of_decide_eq_true qe_
            obtain ⟨ad949, e949, hx949_0⟩ := Kd.at_int HR1.out x5_1 p949 q949
            cases e949
            replace p949 := eq_true p949
            replace q949 := eq_true q949
            go_wp2
            repeat (go_quiet (fail); try go_wp2)
            go_ret
            exact ⟨qc_, by repeat (first | exact Drawn0.refl _ | apply Drawn0.step)⟩
        · rw [if_neg c4] at H
          have c4b0 := decide_eq_false c4
          clear c4
          obtain rfl := Option.some.inj H
          go_wp2
          repeat (go_quiet (fail); try go_wp2)
          go_ret
          exact ⟨qc_, by repeat (first | exact Drawn0.refl _ | apply Drawn0.step)⟩
  · rw [if_neg c3] at H
    have c3b0 : ((l0.length : Int) == (l1.length : Int)) = false := beq_eq_false_iff_ne.mpr c3
    have c3b1 : ((l0.length : Int) != (l1.length : Int)) = true := bne_iff_ne.mpr c3
    have c3b2 : (l0.length == l1.length) = false := by first | simpa using c3 | (simp at c3 ⊢; omega)
    obtain rfl := Option.some.inj H
    go_enter Try.func54, Try.ntmps54
    go_wp2
    repeat (go_quiet (fail); try go_wp2)
    go_ret
    exact ⟨qc_, by repeat (first | exact Drawn0.refl _ | apply Drawn0.step)⟩
end Go.Proofs.Ytcggfjpnfodbaaa.A
end
section
namespace Go.Proofs.Ytcggfjpnfodbaaa.A
open Go.RowKit Go.Proofs.YtcggfjpnfodbaaaW.PrintWords Go.Proofs.YtcggfjpnfodbaaaW.PrintLast Go.Proofs.YtcggfjpnfodbaaaW.PrintMore
attribute [local go_sem] max2_int min2_int max_two min_two max_three min_three max_four min_four
set_option linter.unusedVariables false
set_option linter.unusedSimpArgs false
def laws_eqSurface.f (k : Nat) (l0_0 : List Int) (l0_1 : List Int) (l1_0 : List Int) (l1_1 : List Int) : Option (Bool) := (laws_eqIntS.f k l0_0 l1_0).bind fun t952 => (if t952 = true then ((laws_eqIntS.f k l0_1 l1_1).bind fun t953 => (if t953 = true then (some true) else (some false))) else (some false))
theorem laws_eqSurface.mono : ∀ a0 a1 a2 a3 k, LeO (laws_eqSurface.f k a0 a1 a2 a3) (laws_eqSurface.f (k + 1) a0 a1 a2 a3) := by
  intro a0 a1 a2 a3 k
  unfold laws_eqSurface.f
  repeat' first|exact laws_eqIntS.mono _ _ _|exact lo_|refine LeO.ite ?_ ?_|refine LeO.bind ?_ (fun _ => ?_)
set_option maxHeartbeats 8000000 in
set_option maxRecDepth 100000 in
theorem laws_eqSurface.calls (k : Nat) (A0_0 : Option Addr) (c0_0 : Nat) (l0_0 : List Int) (A0_1 : Option Addr) (c0_1 : Nat) (l0_1 : List Int) (A1_0 : Option Addr) (c1_0 : Nat) (l1_0 : List Int) (A1_1 : Option Addr) (c1_1 : Nat) (l1_1 : List Int) (r : Bool) (w : World) (hr0_0 : Kd.C (Kd.int .i64) w A0_0 l0_0.length l0_0) (hc0_0 : l0_0.length ≤ c0_0) (hr0_1 : Kd.C (Kd.int .i64) w A0_1 l0_1.length l0_1) (hc0_1 : l0_1.length ≤ c0_1) (hr1_0 : Kd.C (Kd.int .i64) w A1_0 l1_0.length l1_0) (hc1_0 : l1_0.length ≤ c1_0) (hr1_1 : Kd.C (Kd.int .i64) w A1_1 l1_1.length l1_1) (hc1_1 : l1_1.length ≤ c1_1) (h : laws_eqSurface.f k l0_0 l0_1 l1_0 l1_1 = some r) :
    Calls Try.prog 34 #[.agg #[.slice A0_0 l0_0.length c0_0, .slice A0_1 l0_1.length c0_1], .agg #[.slice A1_0 l1_0.length c1_0, .slice A1_1 l1_1.length c1_1]] w fun e w' => e = .returned (.bool r) ∧ Below w.heap.size w w' := by
  have hu25 := Try.underlying25
  have HR0_0 := Aside0.mk hr0_0
  have HC0_0 := Aside0.mk hc0_0
  clear hr0_0 hc0_0
  have HR0_1 := Aside0.mk hr0_1
  have HC0_1 := Aside0.mk hc0_1
  clear hr0_1 hc0_1
  have HR1_0 := Aside0.mk hr1_0
  have HC1_0 := Aside0.mk hc1_0
  clear hr1_0 hc1_0
  have HR1_1 := Aside0.mk hr1_1
  have HC1_1 := Aside0.mk hc1_1
  clear hr1_1 hc1_1
  have HB := Aside0.mk (Below.refl w.heap.size w)
  have H := h
  unfold laws_eqSurface.f at H
  clear h
  obtain ⟨t952, A3, H⟩ := bi_ H
  by_cases c4 : t952 = true
  · subst c4
    rw [if_pos rfl] at H
    obtain ⟨t953, A5, H⟩ := bi_ H
    by_cases c6 : t953 = true
    · subst c6
      rw [if_pos rfl] at H
      obtain rfl := Option.some.inj H
      go_enter Try.func34, Try.ntmps34
      go_wp2_with (first | ((with_reducible refine gate_dst (N := 2) rfl ?_); refine bx_ 2 #[.slice A0_0 l0_0.length c0_0, .slice A0_1 l0_1.length c0_1] 25 ?_; intro gb950 hg w7 hbox hb; have BK950 := Aside0.mk hbox; have GW950 := gw_ w hg; have GE950 := GW950; replace HB := b1_ hb; clear hb hbox hg) | ((with_reducible refine gate_dst (N := 3) rfl ?_); refine bx_ 3 #[.slice A1_0 l1_0.length c1_0, .slice A1_1 l1_1.length c1_1] 25 ?_; intro gb951 hg w8 hbox hb; have BK951 := Aside0.mk hbox; have GW951 := gw_ w hg; have GE951 := GW951; replace HB := b1_ hb; have NB950_951 := gN_ BK950 hg; have NB951_950 := gP_ BK950 hg; replace BK950 := bb_ BK950 hb; clear hb hbox hg; have hnb9 := NB950_951.out; have hnc9 := NB951_950.out; obtain ⟨hcz10_0, hcz10_1, hfz10_0, hfz10_1⟩ := c2_ BK950; obtain ⟨hcz11_0, hcz11_1, hfz11_0, hfz11_1⟩ := c2_ BK951) | ((with_reducible refine gate_callee (f := 54) rfl ?_); refine gL_ (some 9) Try.func54 #[.slice A0_0 l0_0.length c0_0, .slice A1_0 l1_0.length c1_0] rfl qa_ ?_; (with_reducible refine (laws_eqIntS.calls k _ _ l0_0 _ _ l1_0 true _ (cb_ HR0_0) HC0_0.out (cb_ HR1_0) HC1_0.out A3.out).mono ?_); rintro e w' ⟨rfl, ⟨nd, rfl⟩⟩; refine ⟨_, rfl, ?_⟩) | ((with_reducible refine gate_callee (f := 54) rfl ?_); refine gL_ (some 15) Try.func54 #[.slice A0_1 l0_1.length c0_1, .slice A1_1 l1_1.length c1_1] rfl qa_ ?_; (with_reducible refine (laws_eqIntS.calls k _ _ l0_1 _ _ l1_1 true _ (cw_ (Kd.C_below HR0_1.out hB_)) HC0_1.out (cw_ (Kd.C_below HR1_1.out hB_)) HC1_1.out A5.out).mono ?_); rintro e w' ⟨rfl, ⟨nd, rfl⟩⟩; refine ⟨_, rfl, ?_⟩))
      go_ret
      exact ⟨qb_, hB_⟩
    · replace c6 := Bool.eq_false_iff.mpr c6
      subst c6
      have H1 : (some false) = some r := by rw [if_neg (show ¬ (false = true) by decide)] at H; exact H
      clear H
      have H := H1
      clear H1
      obtain rfl := Option.some.inj H
      go_enter Try.func34, Try.ntmps34
      go_wp2_with (first | ((with_reducible refine gate_dst (N := 2) rfl ?_); refine bx_ 2 #[.slice A0_0 l0_0.length c0_0, .slice A0_1 l0_1.length c0_1] 25 ?_; intro gb950 hg w12 hbox hb; have BK950 := Aside0.mk hbox; have GW950 := gw_ w hg; have GE950 := GW950; replace HB := b1_ hb; clear hb hbox hg) | ((with_reducible refine gate_dst (N := 3) rfl ?_); refine bx_ 3 #[.slice A1_0 l1_0.length c1_0, .slice A1_1 l1_1.length c1_1] 25 ?_; intro gb951 hg w13 hbox hb; have BK951 := Aside0.mk hbox; have GW951 := gw_ w hg; have GE951 := GW951; replace HB := b1_ hb; have NB950_951 := gN_ BK950 hg; have NB951_950 := gP_ BK950 hg; replace BK950 := bb_ BK950 hb; clear hb hbox hg; have hnb14 := NB950_951.out; have hnc14 := NB951_950.out; obtain ⟨hcz15_0, hcz15_1, hfz15_0, hfz15_1⟩ := c2_ BK950; obtain ⟨hcz16_0, hcz16_1, hfz16_0, hfz16_1⟩ := c2_ BK951) | ((with_reducible refine gate_callee (f := 54) rfl ?_); refine gL_ (some 9) Try.func54 #[.slice A0_0 l0_0.length c0_0, .slice A1_0 l1_0.length c1_0] rfl qa_ ?_; (with_reducible refine (laws_eqIntS.calls k _ _ l0_0 _ _ l1_0 true _ (cb_ HR0_0) HC0_0.out (cb_ HR1_0) HC1_0.out A3.out).mono ?_); rintro e w' ⟨rfl, ⟨nd, rfl⟩⟩; refine ⟨_, rfl, ?_⟩) | ((with_reducible refine gate_callee (f := 54) rfl ?_); refine gL_ (some 15) Try.func54 #[.slice A0_1 l0_1.length c0_1, .slice A1_1 l1_1.length c1_1] rfl qa_ ?_; (with_reducible refine (laws_eqIntS.calls k _ _ l0_1 _ _ l1_1 false _ (cw_ (Kd.C_below HR0_1.out hB_)) HC0_1.out (cw_ (Kd.C_below HR1_1.out hB_)) HC1_1.out A5.out).mono ?_); rintro e w' ⟨rfl, ⟨nd, rfl⟩⟩; refine ⟨_, rfl, ?_⟩))
      go_ret
      exact ⟨qb_, hB_⟩
  · replace c4 := Bool.eq_false_iff.mpr c4
    subst c4
    have H1 : (some false) = some r := by rw [if_neg (show ¬ (false = true) by decide)] at H; exact H
    clear H
    have H := H1
    clear H1
    obtain rfl := Option.some.inj H
    go_enter Try.func34, Try.ntmps34
    go_wp2_with (first | ((with_reducible refine gate_dst (N := 2) rfl ?_); refine bx_ 2 #[.slice A0_0 l0_0.length c0_0, .slice A0_1 l0_1.length c0_1] 25 ?_; intro gb950 hg w17 hbox hb; have BK950 := Aside0.mk hbox; have GW950 := gw_ w hg; have GE950 := GW950; replace HB := b1_ hb; clear hb hbox hg) | ((with_reducible refine gate_dst (N := 3) rfl ?_); refine bx_ 3 #[.slice A1_0 l1_0.length c1_0, .slice A1_1 l1_1.length c1_1] 25 ?_; intro gb951 hg w18 hbox hb; have BK951 := Aside0.mk hbox; have GW951 := gw_ w hg; have GE951 := GW951; replace HB := b1_ hb; have NB950_951 := gN_ BK950 hg; have NB951_950 := gP_ BK950 hg; replace BK950 := bb_ BK950 hb; clear hb hbox hg; have hnb19 := NB950_951.out; have hnc19 := NB951_950.out; obtain ⟨hcz20_0, hcz20_1, hfz20_0, hfz20_1⟩ := c2_ BK950; obtain ⟨hcz21_0, hcz21_1, hfz21_0, hfz21_1⟩ := c2_ BK951) | ((with_reducible refine gate_callee (f := 54) rfl ?_); refine gL_ (some 9) Try.func54 #[.slice A0_0 l0_0.length c0_0, .slice A1_0 l1_0.length c1_0] rfl qa_ ?_; (with_reducible refine (laws_eqIntS.calls k _ _ l0_0 _ _ l1_0 false _ (cb_ HR0_0) HC0_0.out (cb_ HR1_0) HC1_0.out A3.out).mono ?_); rintro e w' ⟨rfl, ⟨nd, rfl⟩⟩; refine ⟨_, rfl, ?_⟩))
    go_ret
    exact ⟨qb_, hB_⟩
end Go.Proofs.Ytcggfjpnfodbaaa.A
end
section
namespace Go.Proofs.Ytcggfjpnfodbaaa.A
open Go.RowKit Go.Proofs.YtcggfjpnfodbaaaW.PrintWords Go.Proofs.YtcggfjpnfodbaaaW.PrintLast Go.Proofs.YtcggfjpnfodbaaaW.PrintMore
attribute [local go_sem] max2_int min2_int max_two min_two max_three min_three max_four min_four
set_option linter.unusedVariables false
set_option linter.unusedSimpArgs false
def laws_markIntS.l0 : Nat → List Int → Int → Int → Option (Int × List Int)
  | 0, _, _, _ => none
  | k + 1, x0, x1, x5 => if x5 < (x0.length : Int) then (if 0 ≤ x5 then (laws_markIntS.l0 k (x0.set (x5 : Int).toNat x1) (wrap64 (x1 + 1)) (wrap64 (x5 + 1))) else (none)) else (some (x1, x0))
def laws_markIntS.f (k : Nat) (l0 : List Int) (a1 : Int) : Option (Int × List Int) := laws_markIntS.l0 k l0 a1 0
theorem laws_markIntS.mono_l : ∀ k, (∀ y0 y1 y2, LeO (laws_markIntS.l0 k y0 y1 y2) (laws_markIntS.l0 (k + 1) y0 y1 y2))
  | 0 => fun _ _ _ r h => by simp [laws_markIntS.l0] at h
  | k + 1 => by
    have ih0 := laws_markIntS.mono_l k
    · intro y0 y1 y2
      unfold laws_markIntS.l0
      repeat' first|exact ih0 _ _ _|exact lo_|refine LeO.ite ?_ ?_|refine LeO.bind ?_ (fun _ => ?_)
theorem laws_markIntS.mono : ∀ a0 a1 k, LeO (laws_markIntS.f k a0 a1) (laws_markIntS.f (k + 1) a0 a1) := by
  intro a0 a1 k
  have ih0 := laws_markIntS.mono_l k
  unfold laws_markIntS.f
  repeat' first|exact ih0 _ _ _|exact lo_|refine LeO.ite ?_ ?_|refine LeO.bind ?_ (fun _ => ?_)
set_option maxHeartbeats 8000000 in
set_option maxRecDepth 100000 in
theorem laws_markIntS.calls (k : Nat) (P0_ : Nat → Prop) (u9000_ : Value) (l0 : List Int) (a1 : Int) (r1 : Int) (r2 : List Int) (w0 w : World) (hB : Below w0.heap.size w0 w) (ho0 : Kd.R (Kd.int .i64) 3 w w0.heap.size P0_ u9000_ l0) (h : laws_markIntS.f k l0 a1 = some (r1, r2)) :
    Calls Try.prog 55 #[u9000_, .int .i64 a1] w fun e w' => e = .returned (.int .i64 r1) ∧ Kd.R (Kd.int .i64) 3 w' w0.heap.size (fun k_ => (P0_ k_ ∨ w.heap.size ≤ k_)) u9000_ r2 ∧ Below w0.heap.size w0 w' ∧ Kept w w' (fun k_ => P0_ k_) := by
  have HO0 := Aside0.mk (show Kd.R (Kd.int .i64) 3 w w0.heap.size (fun k_ => (P0_ k_ ∨ w.heap.size ≤ k_)) u9000_ l0 from Kd.R_mono ho0 (fun k_ hk => (.inl hk)))
  have HK := Aside0.mk (Kept.refl w (fun k_ => P0_ k_))
  have HW0 := Aside0.mk hB.size
  have HB := Aside0.mk hB
  clear hB
  have H := h
  unfold laws_markIntS.f at H
  clear h
  have H' := Aside0.mk H
  clear H
  go_enter Try.func55, Try.ntmps55
  go_wp2
  go_loopg [1, 5] k (fun kq v1 v5 w' => ∃ (x0_1 : List Int) (x1_1 : Int) (x5_1 : Int), v1 = .int .i64 x1_1 ∧ v5 = .int .i64 x5_1 ∧ Aside0 (laws_markIntS.l0 kq x0_1 x1_1 x5_1 = some (r1, r2)) ∧ Aside0 (kq ≤ k) ∧ Aside0 (Kd.R (Kd.int .i64) 3 w' w0.heap.size (fun k_ => (P0_ k_ ∨ w.heap.size ≤ k_)) u9000_ x0_1) ∧ Aside0 (Kept w w' (fun k_ => P0_ k_)) ∧ Aside0 (Below w0.heap.size w0 w'))
  case atStart => exact ⟨(l0), (a1), (0), qc_, qc_, H', ⟨Nat.le_refl _⟩, ⟨(rr_ HO0)⟩, ⟨by repeat (first | (with_reducible first | exact HK.out | apply Kept.alloc | apply Kept.drewN | apply Kept.drew) | exact HK.out)⟩, ⟨hB_⟩⟩
  case round =>
    clear H'
    obtain ⟨x0_1, x1_1, x5_1, rfl, rfl, HA, HK1, HO_0, HK, HB⟩ := hrel
    cases gk with
    | zero => exact absurd HA.out (by simp [laws_markIntS.l0])
    | succ k1 =>
      have H := HA.out
      clear HA
      simp only [laws_markIntS.l0] at H
      by_cases c3 : x5_1 < (x0_1.length : Int)
      · rw [if_pos c3] at H
        have c3b0 := decide_eq_true c3
        clear c3
        have c4 := cp_ H
        replace H := ca_ H
        have c4b0 := decide_eq_true c4
        clear c4
        obtain ⟨y1128, hy1128⟩ : ∃ y_ : List Int, y_ = (x0_1.set (x5_1 : Int).toNat x1_1) := ⟨_, rfl⟩
        replace H : (laws_markIntS.l0 k1 y1128 (wrap64 (x1_1 + 1)) (wrap64 (x5_1 + 1))) = some (r1, r2) := by first | (rw [hy1128]; exact H) | exact H
        have Ny1128 := Aside0.mk hy1128
        clear hy1128
        have H' := Aside0.mk H
        clear H
        obtain ⟨Ao6, co6, eo6⟩ := Kd.R_slice HO_0.out
        subst eo6
        have p5 : 0 ≤ (x5_1 : Int) := of_decide_eq_true qe_
        have q5 : (x5_1 : Int) < ((x0_1.length : Int) : Int) := of_decide_eq_true qe_
        obtain ⟨go5, co5, eo5, gb5, gl5, cl5, HG5⟩ := Kd.R_form HO_0.out (by omega)
        (first | cases eo5 | (injection eo5 with ea_ en_ ec_; (first | subst ea_ | (injection ea_ with ea_; subst ea_)); subst ec_; clear en_))
        have GB5 := Aside0.mk gb5
        have GG5 := Aside0.mk HG5
        clear gb5 gl5 HG5
        have HMgo5 := Aside0.mk (show (P0_ go5 ∨ w.heap.size ≤ go5) from (HO_0.out.1 _ rfl))
        obtain ⟨hx5_0, hf5_0⟩ := Kd.R_celln 0 HO_0.out (x5_1 : Int) p5 q5
        replace p5 := eq_true p5
        replace q5 := eq_true q5
        have HP7 := Kd.R_putg HO_0.out (x5_1 : Int) x1_1
        go_wp2_with (first | ((with_reducible refine gate_store (t := 3) (p := 15) rfl ?_); refine store_event (t := 3) (p := 15) (v := ?vo_w8) (w1 := (wr.setCell ⟨go5, (x5_1 : Int).toNat, none⟩ (.int .i64 x1_1))) ?hg ?ho ?hn ?hr ?_; (case ho => rfl); (case hg => rfl); (case hn => rfl); (case hr => first | (go_simp; done) | (go_simp; rfl)); intro w8 hw; have hg : wr.grownBy w8 (some go5) := (by rw [hw]; exact HP7.2); have hp_ : Kd.R (Kd.int .i64) 3 w8 w0.heap.size (fun k_ => (P0_ k_ ∨ w.heap.size ≤ k_)) (.slice (some ⟨go5, 0, none⟩) x0_1.length co6) y1128 := (by rw [hw, Ny1128.out]; exact HP7.1); clear HP7; replace HB := Aside0.mk ((by rw [hw]; exact below_set (HB.out) GB5.out : Below w0.heap.size w0 w8)); replace HK := Aside0.mk (Kept.of_grown (S := (fun k_ => P0_ k_)) hg (by repeat (first | (with_reducible first | exact HK.out | apply Kept.alloc | apply Kept.drewN | apply Kept.drew) | exact HK.out)) (fun k_ e_ => (HO_0.out.1 k_ e_))); replace HO_0 := Aside0.mk (hp_); clear hg hw hp_))
        go_roundg k1
        case measure => have := HK1.out; omega
        case rel => exact ⟨(y1128), (wrap64 (x1_1 + 1)), (wrap64 (x5_1 + 1)), qc_, qc_, H', ⟨by have := HK1.out; omega⟩, ⟨(rr_ HO_0)⟩, ⟨by repeat (first | (with_reducible first | exact HK.out | apply Kept.alloc | apply Kept.drewN | apply Kept.drew) | exact HK.out)⟩, ⟨hB_⟩⟩
      · rw [if_neg c3] at H
        have c3b0 := decide_eq_false c3
        clear c3
        simp only [Option.some.injEq, Prod.mk.injEq] at H
        obtain ⟨rfl, rfl⟩ := H
        obtain ⟨Ao9, co9, eo9⟩ := Kd.R_slice HO_0.out
        subst eo9
        go_wp2
        go_ret
        exact ⟨qb_, (rr_ HO_0), hB_, by repeat (first | (with_reducible first | exact HK.out | apply Kept.alloc | apply Kept.drewN | apply Kept.drew) | exact HK.out)⟩
end Go.Proofs.Ytcggfjpnfodbaaa.A
end
section
namespace Go.Proofs.Ytcggfjpnfodbaaa.A
open Go.RowKit Go.Proofs.YtcggfjpnfodbaaaW.PrintWords Go.Proofs.YtcggfjpnfodbaaaW.PrintLast Go.Proofs.YtcggfjpnfodbaaaW.PrintMore
attribute [local go_sem] max2_int min2_int max_two min_two max_three min_three max_four min_four
set_option linter.unusedVariables false
set_option linter.unusedSimpArgs false
def laws_markSurface.f (k : Nat) (l0_0 : List Int) (l0_1 : List Int) (a1 : Int) : Option (Int × List Int × List Int) := (laws_markIntS.f k l0_0 a1).bind fun bt1130 => ((laws_markIntS.f k l0_1 bt1130.1).bind fun bt1132 => (some (bt1132.1, bt1130.2, bt1132.2)))
theorem laws_markSurface.mono : ∀ a0 a1 a2 k, LeO (laws_markSurface.f k a0 a1 a2) (laws_markSurface.f (k + 1) a0 a1 a2) := by
  intro a0 a1 a2 k
  unfold laws_markSurface.f
  repeat' first|exact laws_markIntS.mono _ _ _|exact lo_|refine LeO.ite ?_ ?_|refine LeO.bind ?_ (fun _ => ?_)
set_option maxHeartbeats 8000000 in
set_option maxRecDepth 100000 in
theorem laws_markSurface.calls (k : Nat) (P0_0_ : Nat → Prop) (u9000_ : Value) (l0_0 : List Int) (P0_1_ : Nat → Prop) (u9001_ : Value) (l0_1 : List Int) (a1 : Int) (r1 : Int) (r2 : List Int) (r3 : List Int) (w0 w : World) (hB : Below w0.heap.size w0 w) (ho0_0 : Kd.R (Kd.int .i64) 3 w w0.heap.size P0_0_ u9000_ l0_0) (hp0_0_0_1 : ∀ k_, P0_0_ k_ → ¬ P0_1_ k_) (ho0_1 : Kd.R (Kd.int .i64) 3 w w0.heap.size P0_1_ u9001_ l0_1) (hp0_1_0_0 : ∀ k_, P0_1_ k_ → ¬ P0_0_ k_) (h : laws_markSurface.f k l0_0 l0_1 a1 = some (r1, r2, r3)) :
    Calls Try.prog 41 #[.agg #[u9000_, u9001_], .int .i64 a1] w fun e w' => e = .returned (.int .i64 r1) ∧ Kd.R (Kd.int .i64) 3 w' w0.heap.size (fun k_ => ((P0_0_ k_ ∨ P0_1_ k_) ∨ w.heap.size ≤ k_)) u9000_ r2 ∧ Kd.R (Kd.int .i64) 3 w' w0.heap.size (fun k_ => ((P0_0_ k_ ∨ P0_1_ k_) ∨ w.heap.size ≤ k_)) u9001_ r3 ∧ Below w0.heap.size w0 w' ∧ Kept w w' (fun k_ => P0_0_ k_ ∨ P0_1_ k_) := by
  have hu25 := Try.underlying25
  have HO0_0 := Aside0.mk (show Kd.R (Kd.int .i64) 3 w w0.heap.size (fun k_ => ((P0_0_ k_ ∨ P0_1_ k_) ∨ w.heap.size ≤ k_) ∧ some k_ ≠ (u9001_ : Value).ownBlock) u9000_ l0_0 from Kd.R_mono ho0_0 (fun k_ hk => ⟨(.inl (.inl hk)), fun e_ => hp0_0_0_1 k_ hk (ho0_1.1 k_ e_.symm)⟩))
  have HO0_1 := Aside0.mk (show Kd.R (Kd.int .i64) 3 w w0.heap.size (fun k_ => ((P0_0_ k_ ∨ P0_1_ k_) ∨ w.heap.size ≤ k_) ∧ some k_ ≠ (u9000_ : Value).ownBlock) u9001_ l0_1 from Kd.R_mono ho0_1 (fun k_ hk => ⟨(.inl (.inr hk)), fun e_ => hp0_1_0_0 k_ hk (ho0_0.1 k_ e_.symm)⟩))
  have HK := Aside0.mk (Kept.refl w (fun k_ => P0_0_ k_ ∨ P0_1_ k_))
  have HW0 := Aside0.mk hB.size
  have HB := Aside0.mk hB
  clear hB
  have H := h
  unfold laws_markSurface.f at H
  clear h
  obtain ⟨⟨t1130, t1131⟩, A3, H⟩ := bi_ H
  try dsimp only at H
  obtain ⟨⟨t1132, t1133⟩, A4, H⟩ := bi_ H
  try dsimp only at H
  simp only [Option.some.injEq, Prod.mk.injEq] at H
  obtain ⟨rfl, rfl, rfl⟩ := H
  obtain ⟨Ao5, co5, eo5⟩ := Kd.R_slice HO0_0.out
  subst eo5
  obtain ⟨Ao6, co6, eo6⟩ := Kd.R_slice HO0_1.out
  subst eo6
  go_enter Try.func41, Try.ntmps41
  go_wp2_with (first | ((with_reducible refine gate_dst (N := 2) rfl ?_); refine bx_ 2 #[.slice Ao5 l0_0.length co5, .slice Ao6 l0_1.length co6] 25 ?_; intro gb1129 hg w7 hbox hb; replace HO0_0 := rb_ HO0_0 hb; replace HO0_1 := rb_ HO0_1 hb; have BK1129 := Aside0.mk hbox; have GW1129 := Aside0.mk ((gx_ hg (by first | exact HK.out.1 | exact (show Kept w _ (fun k_ => P0_0_ k_ ∨ P0_1_ k_) from by repeat (first | (with_reducible first | exact HK.out | apply Kept.alloc | apply Kept.drewN | apply Kept.drew) | exact HK.out)).1) : w.heap.size ≤ gb1129)); replace HK := Aside0.mk (Kept.below (S := (fun k_ => P0_0_ k_ ∨ P0_1_ k_)) (by repeat (first | (with_reducible first | exact HK.out | apply Kept.alloc | apply Kept.drewN | apply Kept.drew) | exact HK.out)) hb); have GE1129 := Aside0.mk ((gx_ hg (below_size hB_) : w0.heap.size ≤ gb1129)); replace HB := b1_ hb; clear hb hbox hg; obtain ⟨hcz8_0, hcz8_1, hfz8_0, hfz8_1⟩ := c2_ BK1129) | ((with_reducible refine gate_callee (f := 55) rfl ?_); refine gL_ (some 8) Try.func55 #[.slice Ao5 l0_0.length co5, .int .i64 a1] rfl qa_ ?_; (with_reducible refine (laws_markIntS.calls k (fun k_ => some k_ = (.slice Ao5 l0_0.length co5 : Value).ownBlock) (.slice Ao5 l0_0.length co5) l0_0 a1 t1130 t1131 w0 _ ?side1 ?side2 A3.out).mono ?_); (case side1 => repeat (first | (with_reducible first | exact HB.out | apply below_alloc | apply pw_below_drewN | apply below_drew1 | refine below_set ?_ GE1129.out) | exact HB.out)); (case side2 => exact Kd.R_tight rfl HO0_0.out); rintro e w9 ⟨rfl, hy0, hb, hkp⟩; refine ⟨_, rfl, ?_⟩; replace HO0_1 := Aside0.mk (Kd.R_mono (ok' := fun k_ => ((P0_0_ k_ ∨ P0_1_ k_) ∨ w.heap.size ≤ k_) ∧ some k_ ≠ (.slice Ao5 l0_0.length co5 : Value).ownBlock) (Kd.R_keptB (HO0_1.out) hkp (fun k_ hk_ hs_ => (hk_.2) hs_)) (fun k_ hk_ => ⟨hk_.1.1, hk_.1.2⟩)); replace BK1129 := Aside0.mk (blk_kept (kk_ BK1129) hkp (fun hs_ => (fun e_ => (Kd.R_ne HO0_0.out BK1129.out (by decide)) e_) hs_)); replace HK := Aside0.mk (Kept.then_ (S := (fun k_ => P0_0_ k_ ∨ P0_1_ k_)) (by repeat (first | (with_reducible first | exact HK.out | apply Kept.alloc | apply Kept.drewN | apply Kept.drew | refine Kept.setCell ?_ (.inr GW1129.out) _) | exact HK.out)) hkp (fun k_ hs_ => (fun e_ => (HO0_0.out.1 k_ e_.symm).1) hs_)); replace HO0_0 := Aside0.mk (Kd.R_reok rfl hy0 (fun k_ e_ => HO0_0.out.1 k_ e_)); replace HB := Aside0.mk hb; clear hb hkp hy0; obtain ⟨hcz10_0, hcz10_1, hfz10_0, hfz10_1⟩ := c2_ BK1129) | ((with_reducible refine gate_callee (f := 55) rfl ?_); refine gL_ (some 12) Try.func55 #[.slice Ao6 l0_1.length co6, .int .i64 t1130] rfl qa_ ?_; (with_reducible refine (laws_markIntS.calls k (fun k_ => some k_ = (.slice Ao6 l0_1.length co6 : Value).ownBlock) (.slice Ao6 l0_1.length co6) l0_1 t1130 t1132 t1133 w0 _ ?side1 ?side2 A4.out).mono ?_); (case side1 => repeat (first | (with_reducible first | exact HB.out | apply below_alloc | apply pw_below_drewN | apply below_drew1 | refine below_set ?_ GE1129.out) | exact HB.out)); (case side2 => exact Kd.R_tight rfl HO0_1.out); rintro e w11 ⟨rfl, hy0, hb, hkp⟩; refine ⟨_, rfl, ?_⟩; replace HO0_0 := Aside0.mk (Kd.R_mono (ok' := fun k_ => ((P0_0_ k_ ∨ P0_1_ k_) ∨ w.heap.size ≤ k_) ∧ some k_ ≠ (.slice Ao6 l0_1.length co6 : Value).ownBlock) (Kd.R_keptB (HO0_0.out) hkp (fun k_ hk_ hs_ => (hk_.2) hs_)) (fun k_ hk_ => ⟨hk_.1.1, hk_.1.2⟩)); replace BK1129 := Aside0.mk (blk_kept (kk_ BK1129) hkp (fun hs_ => (fun e_ => (Kd.R_ne HO0_1.out BK1129.out (by decide)) e_) hs_)); replace HK := Aside0.mk (Kept.then_ (S := (fun k_ => P0_0_ k_ ∨ P0_1_ k_)) (by repeat (first | (with_reducible first | exact HK.out | apply Kept.alloc | apply Kept.drewN | apply Kept.drew | refine Kept.setCell ?_ (.inr GW1129.out) _) | exact HK.out)) hkp (fun k_ hs_ => (fun e_ => (HO0_1.out.1 k_ e_.symm).1) hs_)); replace HO0_1 := Aside0.mk (Kd.R_reok rfl hy0 (fun k_ e_ => HO0_1.out.1 k_ e_)); replace HB := Aside0.mk hb; clear hb hkp hy0))
  go_ret
  exact ⟨qb_, (rw_ (Kd.R_mono HO0_0.out (fun _ hk => hk.1))), (rw_ (Kd.R_mono HO0_1.out (fun _ hk => hk.1))), hB_, by repeat (first | (with_reducible first | exact HK.out | apply Kept.alloc | apply Kept.drewN | apply Kept.drew | refine Kept.setCell ?_ (.inr GW1129.out) _) | exact HK.out)⟩
end Go.Proofs.Ytcggfjpnfodbaaa.A
end
section
namespace Go.Proofs.Ytcggfjpnfodbaaa.A
open Go.RowKit Go.Proofs.YtcggfjpnfodbaaaW.PrintWords Go.Proofs.YtcggfjpnfodbaaaW.PrintLast Go.Proofs.YtcggfjpnfodbaaaW.PrintMore
attribute [local go_sem] max2_int min2_int max_two min_two max_three min_three max_four min_four
set_option linter.unusedVariables false
set_option linter.unusedSimpArgs false
def spec_l01In.f (a0 : Int) (a1 : Int) (a2 : Int) : Option (Bool) := if a0 ≥ a1 then (some (decide (a0 ≤ a2))) else (some false)
set_option maxHeartbeats 8000000 in
set_option maxRecDepth 100000 in
theorem spec_l01In.calls (a0 : Int) (a1 : Int) (a2 : Int) (r : Bool) (w : World) (h : spec_l01In.f a0 a1 a2 = some r) :
    Calls Try.prog 128 #[.int .i64 a0, .int .i64 a1, .int .i64 a2] w fun e w' => e = .returned (.bool r) ∧ Drawn0 w w' := by
  have H := h
  unfold spec_l01In.f at H
  clear h
  by_cases c4 : a0 ≥ a1
  · rw [if_pos c4] at H
    have c4b0 : decide (a1 ≤ a0) = true := decide_eq_true c4
    clear c4
    obtain rfl := Option.some.inj H
    go_enter Try.func128, Try.ntmps128
    go_wp2
    go_ret
    exact ⟨qc_, by repeat (first | exact Drawn0.refl _ | apply Drawn0.step)⟩
  · rw [if_neg c4] at H
    have c4b0 : decide (a1 ≤ a0) = false := decide_eq_false c4
    clear c4
    obtain rfl := Option.some.inj H
    go_enter Try.func128, Try.ntmps128
    go_wp2
    go_ret
    exact ⟨qc_, by repeat (first | exact Drawn0.refl _ | apply Drawn0.step)⟩
end Go.Proofs.Ytcggfjpnfodbaaa.A
end
section
namespace Go.Proofs.Ytcggfjpnfodbaaa.A
open Go.RowKit Go.Proofs.YtcggfjpnfodbaaaW.PrintWords Go.Proofs.YtcggfjpnfodbaaaW.PrintLast Go.Proofs.YtcggfjpnfodbaaaW.PrintMore
attribute [local go_sem] max2_int min2_int max_two min_two max_three min_three max_four min_four
set_option linter.unusedVariables false
set_option linter.unusedSimpArgs false
def spec_l02Has.l0 : Nat → Int → List Int → Int → Int → Option (Bool)
  | 0, _, _, _, _ => none
  | k + 1, x1, x7, x8, x9 => if x9 < x8 then (if 0 ≤ x9 then (if x9 < (x7.length : Int) then (if (rd x7 x9) = x1 then (some true) else (spec_l02Has.l0 k x1 x7 x8 (wrap64 (x9 + 1)))) else (none)) else (none)) else (some false)
def spec_l02Has.f (k : Nat) (l0 : List Int) (a1 : Int) : Option (Bool) := spec_l02Has.l0 k a1 l0 (l0.length : Int) 0
theorem spec_l02Has.mono_l : ∀ k, (∀ y0 y1 y2 y3, LeO (spec_l02Has.l0 k y0 y1 y2 y3) (spec_l02Has.l0 (k + 1) y0 y1 y2 y3))
  | 0 => fun _ _ _ _ r h => by simp [spec_l02Has.l0] at h
  | k + 1 => by
    have ih0 := spec_l02Has.mono_l k
    · intro y0 y1 y2 y3
      unfold spec_l02Has.l0
      repeat' first|exact ih0 _ _ _ _|exact lo_|refine LeO.ite ?_ ?_|refine LeO.bind ?_ (fun _ => ?_)
theorem spec_l02Has.mono : ∀ a0 a1 k, LeO (spec_l02Has.f k a0 a1) (spec_l02Has.f (k + 1) a0 a1) := by
  intro a0 a1 k
  have ih0 := spec_l02Has.mono_l k
  unfold spec_l02Has.f
  repeat' first|exact ih0 _ _ _ _|exact lo_|refine LeO.ite ?_ ?_|refine LeO.bind ?_ (fun _ => ?_)
set_option maxHeartbeats 8000000 in
set_option maxRecDepth 100000 in
theorem spec_l02Has.calls (k : Nat) (A0 : Option Addr) (c0 : Nat) (l0 : List Int) (a1 : Int) (r : Bool) (w : World) (hr0 : Kd.C (Kd.int .i64) w A0 l0.length l0) (hc0 : l0.length ≤ c0) (h : spec_l02Has.f k l0 a1 = some r) :
    Calls Try.prog 163 #[.slice A0 l0.length c0, .int .i64 a1] w fun e w' => e = .returned (.bool r) ∧ Drawn0 w w' := by
  have HR0 := Aside0.mk hr0
  have HC0 := Aside0.mk hc0
  clear hr0 hc0
  have H := h
  unfold spec_l02Has.f at H
  clear h
  have H' := Aside0.mk H
  clear H
  go_enter Try.func163, Try.ntmps163
  go_wp2
  go_loopg [9] k (fun kq v9 w' => ∃ (x9_1 : Int), v9 = .int .i64 x9_1 ∧ Aside0 (spec_l02Has.l0 kq a1 l0 (l0.length : Int) x9_1 = some r) ∧ Aside0 (kq ≤ k) ∧ Drawn0 w w')
  case atStart => exact ⟨(0), qc_, H', ⟨Nat.le_refl _⟩, by repeat (first | exact Drawn0.refl _ | apply Drawn0.step)⟩
  case round =>
    clear H'
    obtain ⟨x9_1, rfl, HA, HK1, ⟨m1, rfl⟩⟩ := hrel
    cases gk with
    | zero => exact absurd HA.out (by simp [spec_l02Has.l0])
    | succ k1 =>
      have H := HA.out
      clear HA
      simp only [spec_l02Has.l0] at H
      by_cases c3 : x9_1 < (l0.length : Int)
      · rw [if_pos c3] at H
        have c3b0 := decide_eq_true c3
        clear c3
        have c4 := cp_ H
        replace H := ca_ H
        have c4b0 := decide_eq_true c4
        clear c4
        have c5 := cp_ H
        replace H := ca_ H
        have c5b0 := decide_eq_true c5
        clear c5
        by_cases c6 : (rd l0 x9_1) = a1
        · rw [if_pos c6] at H
          have c6b0 : ((rd l0 x9_1) == a1) = true := beq_iff_eq.mpr c6
          have c6b1 : ((rd l0 x9_1) != a1) = false := bne_eq_false_iff_eq.mpr c6
          clear c6
          obtain rfl := Option.some.inj H
          have p101 : 0 ≤ (x9_1 : Int) := of_decide_eq_true qe_
          have q101 : x9_1 < (l0.length : Int) := of_decide_eq_true qe_
          obtain ⟨ad101, e101, hx101_0⟩ := Kd.at_int HR0.out x9_1 p101 q101
          cases e101
          replace p101 := eq_true p101
          replace q101 := eq_true q101
          go_wp2
          go_ret
          exact ⟨qc_, by repeat (first | exact Drawn0.refl _ | apply Drawn0.step)⟩
        · rw [if_neg c6] at H
          have c6b0 : ((rd l0 x9_1) == a1) = false := beq_eq_false_iff_ne.mpr c6
          have c6b1 : ((rd l0 x9_1) != a1) = true := bne_iff_ne.mpr c6
          have H' := Aside0.mk H
          clear H
          have p101 : 0 ≤ (x9_1 : Int) := of_decide_eq_true qe_
          have q101 : x9_1 < (l0.length : Int) := of_decide_eq_true qe_
          obtain ⟨ad101, e101, hx101_0⟩ := Kd.at_int HR0.out x9_1 p101 q101
          cases e101
          replace p101 := eq_true p101
          replace q101 := eq_true q101
          go_wp2
          go_roundg k1
          case measure => have := HK1.out; omega
          case rel => exact ⟨(wrap64 (x9_1 + 1)), qc_, H', ⟨by have := HK1.out; omega⟩, by repeat (first | exact Drawn0.refl _ | apply Drawn0.step)⟩
      · rw [if_neg c3] at H
        have c3b0 := decide_eq_false c3
        clear c3
        obtain rfl := Option.some.inj H
        go_wp2
        go_ret
        exact ⟨qc_, by repeat (first | exact Drawn0.refl _ | apply Drawn0.step)⟩
end Go.Proofs.Ytcggfjpnfodbaaa.A
end
section
namespace Go.Proofs.Ytcggfjpnfodbaaa.A
open Go.RowKit Go.Proofs.YtcggfjpnfodbaaaW.PrintWords Go.Proofs.YtcggfjpnfodbaaaW.PrintLast Go.Proofs.YtcggfjpnfodbaaaW.PrintMore
attribute [local go_sem] max2_int min2_int max_two min_two max_three min_three max_four min_four
set_option linter.unusedVariables false
set_option linter.unusedSimpArgs false
def spec_PermOk.l0 : Nat → List Int → List Int → Int → Int → Option (Bool)
  | 0, _, _, _, _ => none
  | k + 1, x0, x8, x9, x10 => if x10 < x9 then (if 0 ≤ x10 then (if x10 < (x8.length : Int) then ((spec_l01In.f (rd x8 x10) 0 (wrap64 ((x0.length : Int) - 1))).bind fun t103 => (if t103 = true then (if x10 ≤ (x0.length : Int) then ((spec_l02Has.f k (x0.take (x10 : Int).toNat) (rd x8 x10)).bind fun t105 => (if t105 = true then (some false) else (spec_PermOk.l0 k x0 x8 x9 (wrap64 (x10 + 1))))) else (none)) else (some false))) else (none)) else (none)) else (some true)
def spec_PermOk.f (k : Nat) (l0 : List Int) : Option (Bool) := if (l0.length : Int) > 24 then (some false) else (spec_PermOk.l0 k l0 l0 (l0.length : Int) 0)
theorem spec_PermOk.mono_l : ∀ k, (∀ y0 y1 y2 y3, LeO (spec_PermOk.l0 k y0 y1 y2 y3) (spec_PermOk.l0 (k + 1) y0 y1 y2 y3))
  | 0 => fun _ _ _ _ r h => by simp [spec_PermOk.l0] at h
  | k + 1 => by
    have ih0 := spec_PermOk.mono_l k
    · intro y0 y1 y2 y3
      unfold spec_PermOk.l0
      repeat' first
      | (with_reducible exact ih0 _ _ _ _)
      | (with_reducible exact spec_l02Has.mono _ _ _)
      | (with_reducible exact LeO.refl _)
      | (with_reducible exact LeO.none _)
      | (with_reducible refine LeO.ite ?_ ?_)
      | (with_reducible refine LeO.bind ?_ (fun _ => ?_))
      | exact ih0 _ _ _ _
      | exact spec_l02Has.mono _ _ _
      | exact LeO.none _
      | refine LeO.ite ?_ ?_
      | refine LeO.bind ?_ (fun _ => ?_)
theorem spec_PermOk.mono : ∀ a0 k, LeO (spec_PermOk.f k a0) (spec_PermOk.f (k + 1) a0) := by
  intro a0 k
  have ih0 := spec_PermOk.mono_l k
  unfold spec_PermOk.f
  repeat' first
      | (with_reducible exact ih0 _ _ _ _)
      | (with_reducible exact spec_l02Has.mono _ _ _)
      | (with_reducible exact LeO.refl _)
      | (with_reducible exact LeO.none _)
      | (with_reducible refine LeO.ite ?_ ?_)
      | (with_reducible refine LeO.bind ?_ (fun _ => ?_))
      | exact ih0 _ _ _ _
      | exact spec_l02Has.mono _ _ _
      | exact LeO.none _
      | refine LeO.ite ?_ ?_
      | refine LeO.bind ?_ (fun _ => ?_)
set_option maxHeartbeats 8000000 in
set_option maxRecDepth 100000 in
theorem spec_PermOk.calls (k : Nat) (A0 : Option Addr) (c0 : Nat) (l0 : List Int) (r : Bool) (w : World) (hr0 : Kd.C (Kd.int .i64) w A0 l0.length l0) (hc0 : l0.length ≤ c0) (h : spec_PermOk.f k l0 = some r) :
    Calls Try.prog 146 #[.slice A0 l0.length c0] w fun e w' => e = .returned (.bool r) ∧ Drawn0 w w' := by
  have HR0 := Aside0.mk hr0
  have HC0 := Aside0.mk hc0
  clear hr0 hc0
  have H : (if (l0.length : Int) > 24 then (some false) else (spec_PermOk.l0 k l0 l0 (l0.length : Int) 0)) = some r := h
  clear h
  by_cases c2 : (l0.length : Int) > 24
  · rw [if_pos c2] at H
    have c2b0 : decide (24 < (l0.length : Int)) = true := decide_eq_true c2
    have c2b1 : decide (24 < l0.length) = true := decide_eq_true (by omega)
    clear c2
    obtain rfl := Option.some.inj H
    go_enter Try.func146, Try.ntmps146
    go_wp2
    go_ret
    exact ⟨by first | rfl | (simp; done) | (simp [*]; done), by repeat (first | exact Drawn0.refl _ | apply Drawn0.step)⟩
  · rw [if_neg c2] at H
    have c2b0 : decide (24 < (l0.length : Int)) = false := decide_eq_false c2
    have c2b1 : decide (24 < l0.length) = false := decide_eq_false (by omega)
    clear c2
    have H' := Aside0.mk H
    clear H
    go_enter Try.func146, Try.ntmps146
    go_wp2
    go_loopg [10] k (fun kq v10 w' => ∃ (x10_1 : Int), v10 = .int .i64 x10_1 ∧ Aside0 (spec_PermOk.l0 kq l0 l0 (l0.length : Int) x10_1 = some r) ∧ Aside0 (kq ≤ k) ∧ Drawn0 w w')
    case atStart => exact ⟨(0), (by first | rfl | (simp; done) | (simp [*]; done)), H', ⟨Nat.le_refl _⟩, by repeat (first | exact Drawn0.refl _ | apply Drawn0.step)⟩
    case round =>
      clear H'
      try clear c1
      try clear c2
      try clear c2b0
      try clear c2b1
      try clear p2
      obtain ⟨x10_1, rfl, HA, HK1, ⟨m1, rfl⟩⟩ := hrel
      cases gk with
      | zero => exact absurd HA.out (by simp [spec_PermOk.l0])
      | succ k1 =>
        have H := HA.out
        clear HA
        simp only [spec_PermOk.l0] at H
        by_cases c3 : x10_1 < (l0.length : Int)
        · rw [if_pos c3] at H
          have c3b0 : decide (x10_1 < (l0.length : Int)) = true := decide_eq_true c3
          clear c3
          by_cases c4 : 0 ≤ x10_1
          · rw [if_pos c4] at H
            have c4b0 : decide (0 ≤ x10_1) = true := decide_eq_true c4
            clear c4
            by_cases c5 : x10_1 < (l0.length : Int)
            · rw [if_pos c5] at H
              have c5b0 : decide (x10_1 < (l0.length : Int)) = true := decide_eq_true c5
              clear c5
              replace H := Option.bind_eq_some_iff.mp H
              obtain ⟨t103, A60, H⟩ := H
              replace H : (if t103 = true then (if x10_1 ≤ (l0.length : Int) then ((spec_l02Has.f k1 (l0.take (x10_1 : Int).toNat) (rd l0 x10_1)).bind fun t105 => (if t105 = true then (some false) else (spec_PermOk.l0 k1 l0 l0 (l0.length : Int) (wrap64 (x10_1 + 1))))) else (none)) else (some false)) = some r := H
              have A6 := Aside0.mk A60
              clear A60
              by_cases c7 : t103 = true
              · subst c7
                have H1 : (if x10_1 ≤ (l0.length : Int) then ((spec_l02Has.f k1 (l0.take (x10_1 : Int).toNat) (rd l0 x10_1)).bind fun t105 => (if t105 = true then (some false) else (spec_PermOk.l0 k1 l0 l0 (l0.length : Int) (wrap64 (x10_1 + 1))))) else (none)) = some r := by rw [if_pos rfl] at H; exact H
                clear H
                have H := H1
                clear H1
                have c8b0 := eq_true (of_decide_eq_true (by first | (with_reducible assumption) | assumption) : 0 ≤ x10_1)
                by_cases c9 : x10_1 ≤ (l0.length : Int)
                · rw [if_pos c9] at H
                  have c9b0 := eq_true c9
                  have c9b1 : decide (x10_1 ≤ (l0.length : Int)) = true := decide_eq_true c9
                  clear c9
                  replace H := Option.bind_eq_some_iff.mp H
                  obtain ⟨t105, A100, H⟩ := H
                  replace H : (if t105 = true then (some false) else (spec_PermOk.l0 k1 l0 l0 (l0.length : Int) (wrap64 (x10_1 + 1)))) = some r := H
                  have A10 := Aside0.mk A100
                  clear A100
                  by_cases c11 : t105 = true
                  · subst c11
                    have H1 : (some false) = some r := by rw [if_pos rfl] at H; exact H
                    clear H
                    have H := H1
                    clear H1
                    obtain rfl := Option.some.inj H
                    have p102 : 0 ≤ (x10_1 : Int) := of_decide_eq_true (by first | (with_reducible assumption) | assumption)
                    have q102 : x10_1 < (l0.length : Int) := of_decide_eq_true (by first | (with_reducible assumption) | assumption)
                    obtain ⟨ad102, e102, hx102_0⟩ := Kd.at_int HR0.out x10_1 p102 q102
                    cases e102
                    replace p102 := eq_true p102
                    replace q102 := eq_true q102
                    have HL_ := Aside0.mk (show (x10_1 : Int).toNat = (l0.take (x10_1 : Int).toNat).length by rw [List.length_take]; have := of_eq_true q102; omega)
                    go_wp2_with (first | ((with_reducible refine gate_callee (f := 128) rfl ?_); refine goesL_ (some 19) rfl rfl Try.func128 (by kernel_rfl) rfl #[.int .i64 (rd l0 x10_1), .int .i64 0, .int .i64 (wrap64 ((l0.length : Int) - 1))] rfl (by (try simp only [List.map_toArray, List.map_cons, List.map_nil]); first | done | rfl | (simp only [List.length_drop, List.length_take]; rfl)) ?_; (with_reducible refine (spec_l01In.calls (rd l0 x10_1) 0 (wrap64 ((l0.length : Int) - 1)) true _ A6.out).mono ?_); rintro e w' ⟨rfl, ⟨nd, rfl⟩⟩; refine ⟨_, rfl, ?_⟩; obtain ⟨i012, hi012, _, hsz12, _⟩ := info_parts info3; obtain ⟨hcut12, hA12, hC12⟩ := print_take_of (P := Try.prog) (Value.int .i64) 0 23 3 .i64 Try.underlying23 hi012 hsz12 (some ad102) c0 l0 x10_1 (of_decide_eq_true (by first | (with_reducible assumption) | assumption)) (of_decide_eq_true (by first | (with_reducible assumption) | assumption)) HC0.out; have HR104 := Aside0.mk (Kd.C_of_reads (h1 := fun _ => rfl) (hA12 _ (Kd.reads_of_C HR0.out))); have HC104 := Aside0.mk hC12; clear hA12 hC12 hi012 hsz12) | (go_at_call 163; refine calls_of_args (congrArg (fun n_ => #[Value.slice _ n_ _, _]) HL_.out) ?_; (with_reducible refine (spec_l02Has.calls k1 _ _ (l0.take (x10_1 : Int).toNat) (rd l0 x10_1) true _ ?side1 ?side2 A10.out).mono ?_); (case side1 => repeat (first | exact HR104.out | (with_reducible refine Kd.C_alloc ?_ _) | (with_reducible refine Kd.C_drewN ?_ _) | (with_reducible refine Kd.C_drew ?_))); (case side2 => exact HC104.out); rintro e w' ⟨rfl, ⟨nd, rfl⟩⟩))
                    go_ret
                    exact ⟨by first | rfl | (simp; done) | (simp [*]; done), by repeat (first | exact Drawn0.refl _ | apply Drawn0.step)⟩
                  · replace c11 := Bool.eq_false_iff.mpr c11
                    subst c11
                    have H1 : (spec_PermOk.l0 k1 l0 l0 (l0.length : Int) (wrap64 (x10_1 + 1))) = some r := by rw [if_neg (show ¬ (false = true) by decide)] at H; exact H
                    clear H
                    have H := H1
                    clear H1
                    have H' := Aside0.mk H
                    clear H
                    have p102 : 0 ≤ (x10_1 : Int) := of_decide_eq_true (by first | (with_reducible assumption) | assumption)
                    have q102 : x10_1 < (l0.length : Int) := of_decide_eq_true (by first | (with_reducible assumption) | assumption)
                    obtain ⟨ad102, e102, hx102_0⟩ := Kd.at_int HR0.out x10_1 p102 q102
                    cases e102
                    replace p102 := eq_true p102
                    replace q102 := eq_true q102
                    have HL_ := Aside0.mk (show (x10_1 : Int).toNat = (l0.take (x10_1 : Int).toNat).length by rw [List.length_take]; have := of_eq_true q102; omega)
                    go_wp2_with (first | ((with_reducible refine gate_callee (f := 128) rfl ?_); refine goesL_ (some 19) rfl rfl Try.func128 (by kernel_rfl) rfl #[.int .i64 (rd l0 x10_1), .int .i64 0, .int .i64 (wrap64 ((l0.length : Int) - 1))] rfl (by (try simp only [List.map_toArray, List.map_cons, List.map_nil]); first | done | rfl | (simp only [List.length_drop, List.length_take]; rfl)) ?_; (with_reducible refine (spec_l01In.calls (rd l0 x10_1) 0 (wrap64 ((l0.length : Int) - 1)) true _ A6.out).mono ?_); rintro e w' ⟨rfl, ⟨nd, rfl⟩⟩; refine ⟨_, rfl, ?_⟩; obtain ⟨i013, hi013, _, hsz13, _⟩ := info_parts info3; obtain ⟨hcut13, hA13, hC13⟩ := print_take_of (P := Try.prog) (Value.int .i64) 0 23 3 .i64 Try.underlying23 hi013 hsz13 (some ad102) c0 l0 x10_1 (of_decide_eq_true (by first | (with_reducible assumption) | assumption)) (of_decide_eq_true (by first | (with_reducible assumption) | assumption)) HC0.out; have HR104 := Aside0.mk (Kd.C_of_reads (h1 := fun _ => rfl) (hA13 _ (Kd.reads_of_C HR0.out))); have HC104 := Aside0.mk hC13; clear hA13 hC13 hi013 hsz13) | (go_at_call 163; refine calls_of_args (congrArg (fun n_ => #[Value.slice _ n_ _, _]) HL_.out) ?_; (with_reducible refine (spec_l02Has.calls k1 _ _ (l0.take (x10_1 : Int).toNat) (rd l0 x10_1) false _ ?side1 ?side2 A10.out).mono ?_); (case side1 => repeat (first | exact HR104.out | (with_reducible refine Kd.C_alloc ?_ _) | (with_reducible refine Kd.C_drewN ?_ _) | (with_reducible refine Kd.C_drew ?_))); (case side2 => exact HC104.out); rintro e w' ⟨rfl, ⟨nd, rfl⟩⟩))
                    go_roundg k1
                    case measure => have := HK1.out; omega
                    case rel => exact ⟨(wrap64 (x10_1 + 1)), (by first | rfl | (simp; done) | (simp [*]; done)), H', ⟨by have := HK1.out; omega⟩, by repeat (first | exact Drawn0.refl _ | apply Drawn0.step)⟩
                · rw [if_neg c9] at H
                  exact absurd H (by simp)
              · replace c7 := Bool.eq_false_iff.mpr c7
                subst c7
                have H1 : (some false) = some r := by rw [if_neg (show ¬ (false = true) by decide)] at H; exact H
                clear H
                have H := H1
                clear H1
                obtain rfl := Option.some.inj H
                have p102 : 0 ≤ (x10_1 : Int) := of_decide_eq_true (by first | (with_reducible assumption) | assumption)
                have q102 : x10_1 < (l0.length : Int) := of_decide_eq_true (by first | (with_reducible assumption) | assumption)
                obtain ⟨ad102, e102, hx102_0⟩ := Kd.at_int HR0.out x10_1 p102 q102
                cases e102
                replace p102 := eq_true p102
                replace q102 := eq_true q102
                have HL_ := Aside0.mk (show (x10_1 : Int).toNat = (l0.take (x10_1 : Int).toNat).length by rw [List.length_take]; have := of_eq_true q102; omega)
                go_wp2_with (first | ((with_reducible refine gate_callee (f := 128) rfl ?_); refine goesL_ (some 19) rfl rfl Try.func128 (by kernel_rfl) rfl #[.int .i64 (rd l0 x10_1), .int .i64 0, .int .i64 (wrap64 ((l0.length : Int) - 1))] rfl (by (try simp only [List.map_toArray, List.map_cons, List.map_nil]); first | done | rfl | (simp only [List.length_drop, List.length_take]; rfl)) ?_; (with_reducible refine (spec_l01In.calls (rd l0 x10_1) 0 (wrap64 ((l0.length : Int) - 1)) false _ A6.out).mono ?_); rintro e w' ⟨rfl, ⟨nd, rfl⟩⟩; refine ⟨_, rfl, ?_⟩))
                go_ret
                exact ⟨by first | rfl | (simp; done) | (simp [*]; done), by repeat (first | exact Drawn0.refl _ | apply Drawn0.step)⟩
            · rw [if_neg c5] at H
              exact absurd H (by simp)
          · rw [if_neg c4] at H
            exact absurd H (by simp)
        · rw [if_neg c3] at H
          have c3b0 : decide (x10_1 < (l0.length : Int)) = false := decide_eq_false c3
          clear c3
          obtain rfl := Option.some.inj H
          go_wp2
          go_ret
          exact ⟨by first | rfl | (simp; done) | (simp [*]; done), by repeat (first | exact Drawn0.refl _ | apply Drawn0.step)⟩
end Go.Proofs.Ytcggfjpnfodbaaa.A
end
section
namespace Go.Proofs.Ytcggfjpnfodbaaa.A
open Go.RowKit Go.Proofs.YtcggfjpnfodbaaaW.PrintWords Go.Proofs.YtcggfjpnfodbaaaW.PrintLast Go.Proofs.YtcggfjpnfodbaaaW.PrintMore
attribute [local go_sem] max2_int min2_int max_two min_two max_three min_three max_four min_four
set_option linter.unusedVariables false
set_option linter.unusedSimpArgs false
mutual
def spec_l02Reach.l0 : Nat → List Int → List Int → List Int → Int → Option (List Int)
  | 0, _, _, _, _ => none
  | k + 1, x0, x1, x7, x8 => if x8 < (x7.length : Int) then (if 0 ≤ x8 then (if 0 ≤ (rd x7 x8) then (if (rd x7 x8) < (x0.length : Int) then (if (rd x7 x8) < (x1.length : Int) then ((some (([rd x0 (rd x7 x8), rd x1 (rd x7 x8)] : List Int) : List Int)).bind fun y113 => (spec_l02Reach.l1 k x0 x1 x7 x8 y113 (y113.length : Int) 0)) else (none)) else (none)) else (none)) else (none)) else (some x7)
def spec_l02Reach.l1 : Nat → List Int → List Int → List Int → Int → List Int → Int → Int → Option (List Int)
  | 0, _, _, _, _, _, _, _ => none
  | k + 1, x0, x1, x7, x8, x33, x34, x35 => if x35 < x34 then (if 0 ≤ x35 then (if x35 < (x33.length : Int) then ((spec_l02Has.f k x7 (rd x33 x35)).bind fun t117 => (if t117 = true then (spec_l02Reach.l1 k x0 x1 x7 x8 x33 x34 (wrap64 (x35 + 1))) else (if x7.length < 17592186044416 then (spec_l02Reach.l1 k x0 x1 (x7 ++ [rd x33 x35]) x8 x33 x34 (wrap64 (x35 + 1))) else (none)))) else (none)) else (none)) else (spec_l02Reach.l0 k x0 x1 x7 (wrap64 (x8 + 1)))
end
def spec_l02Reach.f (k : Nat) (l0 : List Int) (l1 : List Int) (a2 : Int) : Option (List Int) := spec_l02Reach.l0 k l0 l1 (([a2] : List Int)) 0
theorem spec_l02Reach.mono_l : ∀ k, (∀ y0 y1 y2 y3, LeO (spec_l02Reach.l0 k y0 y1 y2 y3) (spec_l02Reach.l0 (k + 1) y0 y1 y2 y3)) ∧ (∀ y0 y1 y2 y3 y4 y5 y6, LeO (spec_l02Reach.l1 k y0 y1 y2 y3 y4 y5 y6) (spec_l02Reach.l1 (k + 1) y0 y1 y2 y3 y4 y5 y6))
  | 0 => ⟨fun _ _ _ _ r h => by simp [spec_l02Reach.l0] at h, fun _ _ _ _ _ _ _ r h => by simp [spec_l02Reach.l1] at h⟩
  | k + 1 => by
    obtain ⟨ih0, ih1⟩ := spec_l02Reach.mono_l k
    refine ⟨?_, ?_⟩
    · intro y0 y1 y2 y3
      unfold spec_l02Reach.l0
      repeat' first|exact ih0 _ _ _ _|exact ih1 _ _ _ _ _ _ _|exact spec_l02Has.mono _ _ _|exact lo_|refine LeO.ite ?_ ?_|refine LeO.bind ?_ (fun _ => ?_)
    · intro y0 y1 y2 y3 y4 y5 y6
      unfold spec_l02Reach.l1
      repeat' first|exact ih0 _ _ _ _|exact ih1 _ _ _ _ _ _ _|exact spec_l02Has.mono _ _ _|exact lo_|refine LeO.ite ?_ ?_|refine LeO.bind ?_ (fun _ => ?_)
theorem spec_l02Reach.mono : ∀ a0 a1 a2 k, LeO (spec_l02Reach.f k a0 a1 a2) (spec_l02Reach.f (k + 1) a0 a1 a2) := by
  intro a0 a1 a2 k
  obtain ⟨ih0, ih1⟩ := spec_l02Reach.mono_l k
  unfold spec_l02Reach.f
  repeat' first|exact ih0 _ _ _ _|exact ih1 _ _ _ _ _ _ _|exact spec_l02Has.mono _ _ _|exact lo_|refine LeO.ite ?_ ?_|refine LeO.bind ?_ (fun _ => ?_)
def spec_l02Reach.T5 : Bool × List (List Nat × List Nat) := (true, [([], []), ([], []), ([], []), ([1, 2], [1, 2]), ([3], [3]), ([0, 4], [0, 4]), ([5], [5]), ([], []), ([], []), ([], []), ([8, 9], [8, 9]), ([10], [10]), ([7, 11], [7, 11]), ([12], [12]), ([6, 13], [6, 13]), ([14], [14]), ([], [])])
def spec_l02Reach.B5 : List Nat := [0, 0, 0, 6, 14, 31, 63, 0, 0, 0, 768, 1792, 3968, 8064, 16383, 32767, 0]
theorem spec_l02Reach.tab5 : rtab .any (opsOf Try.f147 5) = spec_l02Reach.T5 := by kernel_rfl
theorem spec_l02Reach.bits5 : waitsOk spec_l02Reach.T5.2 spec_l02Reach.B5 = true := by kernel_rfl
set_option maxHeartbeats 8000000 in
set_option maxRecDepth 100000 in
theorem spec_l02Reach.calls (k : Nat) (A0 : Option Addr) (c0 : Nat) (l0 : List Int) (A1 : Option Addr) (c1 : Nat) (l1 : List Int) (a2 : Int) (r : List Int) (w : World) (hr0 : Kd.C (Kd.int .i64) w A0 l0.length l0) (hc0 : l0.length ≤ c0) (hr1 : Kd.C (Kd.int .i64) w A1 l1.length l1) (hc1 : l1.length ≤ c1) (h : spec_l02Reach.f k l0 l1 a2 = some r) :
    Calls Try.prog 147 #[.slice A0 l0.length c0, .slice A1 l1.length c1, .int .i64 a2] w fun e w' => ∃ v0_ : Value, e = .returned (v0_) ∧ Kd.R (Kd.int .i64) 3 w' w.heap.size (fun _ => True) v0_ r ∧ Below w.heap.size w w' := by
  have HR0 := Aside0.mk hr0
  have HC0 := Aside0.mk hc0
  clear hr0 hc0
  have HR1 := Aside0.mk hr1
  have HC1 := Aside0.mk hc1
  clear hr1 hc1
  have HB := Aside0.mk (Below.refl w.heap.size w)
  have H := h
  unfold spec_l02Reach.f at H
  clear h
  obtain ⟨y106, hy106⟩ : ∃ y_ : List Int, y_ = (([a2] : List Int)) := ⟨_, rfl⟩
  replace H : (spec_l02Reach.l0 k l0 l1 y106 0) = some r := by first | (rw [hy106]; exact H) | exact H
  have Ny106 := Aside0.mk hy106
  clear hy106
  have H' := Aside0.mk H
  clear H
  go_enter Try.func147, Try.ntmps147
  go_wp2_with (first | ((with_reducible refine gate_dst (N := 12) rfl ?_); refine Kd.R_lit (Kd.int .i64) _ 3 ?hg (N := 12) ?hd (xs := ([a2] : List Int)) (inner := [.int .i64 a2]) (ok := fun _ => True) (okp := fun _ => True) ?hr ?hp (fun _ hk => hk) trivial (Below.refl _ _) (Nat.le_refl _) (by simp) ?_; (case hd => rfl); (case hg => rfl); (case hr => first | (go_simp; done) | (go_simp; rfl)); (case hp => exact (Reps.one (show Kd.M (Kd.int .i64) _ _ _ a2 [.int .i64 a2] from rfl) (Reps.none _ _))); intro v107 w4 ho5 hb hg_ hnew_; clear hg_ hnew_; (first | rw [← Ny106.out] at ho5 | (simp only [Int.reduceToNat] at ho5; rw [← Ny106.out] at ho5)); have HO108 := rl_ w ho5; replace HB := b1_ hb; clear hb ho5))
  go_loopg [7, 8] k (fun kq v7 v8 w' => ∃ (x7_1 : List Int) (x8_1 : Int), v8 = .int .i64 x8_1 ∧ Aside0 (spec_l02Reach.l0 kq l0 l1 x7_1 x8_1 = some r) ∧ Aside0 (kq ≤ k) ∧ Aside0 (Kd.R (Kd.int .i64) 3 w' w.heap.size (fun _ => True) v7 x7_1) ∧ Aside0 (Below w.heap.size w w'))
  case atStart => exact ⟨(y106), (0), qc_, H', ⟨Nat.le_refl _⟩, ⟨(rr_ HO108)⟩, ⟨hB_⟩⟩
  case round =>
    clear H'
    obtain ⟨x7_1, x8_1, rfl, HA, HK1, HO_7, HB⟩ := hrel
    cases gk with
    | zero => exact absurd HA.out (by simp [spec_l02Reach.l0])
    | succ k1 =>
      have H := HA.out
      clear HA
      simp only [spec_l02Reach.l0] at H
      by_cases c6 : x8_1 < (x7_1.length : Int)
      · rw [if_pos c6] at H
        have c6b0 := decide_eq_true c6
        clear c6
        have c7 := cp_ H
        replace H := ca_ H
        have c7b0 := decide_eq_true c7
        clear c7
        have c8 := cp_ H
        replace H := ca_ H
        have c8b0 := decide_eq_true c8
        clear c8
        have c9 := cp_ H
        replace H := ca_ H
        have c9b0 := decide_eq_true c9
        clear c9
        have c10 := cp_ H
        replace H := ca_ H
        have c10b0 := decide_eq_true c10
        clear c10
        obtain ⟨y113, hy113⟩ : ∃ y_ : List Int, y_ = (([rd l0 (rd x7_1 x8_1), rd l1 (rd x7_1 x8_1)] : List Int)) := ⟨_, rfl⟩
        replace H : (spec_l02Reach.l1 k1 l0 l1 x7_1 x8_1 y113 (y113.length : Int) 0) = some r := by first | (rw [hy113]; exact H) | exact H
        have Ny113 := Aside0.mk hy113
        clear hy113
        have H' := Aside0.mk H
        clear H
        obtain ⟨Ao11, co11, eo11⟩ := Kd.R_slice HO_7.out
        subst eo11
        try go_wp2
        replace HO_7 := Aside0.mk (Kd.R_drew HO_7.out)
        replace HB := Aside0.mk (below_drew1 HB.out)
        have p109 : 0 ≤ (x8_1 : Int) := of_decide_eq_true qe_
        have q109 : x8_1 < (x7_1.length : Int) := of_decide_eq_true qe_
        obtain ⟨ad109, e109, hx109_0⟩ := Kd.at_int (Kd.R_reads' HO_7.out).2.2 x8_1 p109 q109
        cases e109
        replace p109 := eq_true p109
        replace q109 := eq_true q109
        have p110 : 0 ≤ ((rd x7_1 x8_1) : Int) := of_decide_eq_true qe_
        have q110 : (rd x7_1 x8_1) < (l0.length : Int) := of_decide_eq_true qe_
        obtain ⟨ad110, e110, hx110_0⟩ := Kd.at_int HR0.out (rd x7_1 x8_1) p110 q110
        have hw110_0 := hx110_0
        cases e110
        replace hx110_0 := (HB.out.cell (World.block_lt_of_cell? w _ hx110_0)).trans hx110_0
        replace p110 := eq_true p110
        replace q110 := eq_true q110
        have p111 : 0 ≤ (x8_1 : Int) := of_decide_eq_true qe_
        have q111 : x8_1 < (x7_1.length : Int) := of_decide_eq_true qe_
        obtain ⟨ad111, e111, hx111_0⟩ := Kd.at_int (Kd.R_reads' HO_7.out).2.2 x8_1 p111 q111
        obtain rfl : ad109 = ad111 := (by injection e111)
        replace p111 := eq_true p111
        replace q111 := eq_true q111
        have p112 : 0 ≤ ((rd x7_1 x8_1) : Int) := of_decide_eq_true qe_
        have q112 : (rd x7_1 x8_1) < (l1.length : Int) := of_decide_eq_true qe_
        obtain ⟨ad112, e112, hx112_0⟩ := Kd.at_int HR1.out (rd x7_1 x8_1) p112 q112
        have hw112_0 := hx112_0
        cases e112
        replace hx112_0 := (HB.out.cell (World.block_lt_of_cell? w _ hx112_0)).trans hx112_0
        replace p112 := eq_true p112
        replace q112 := eq_true q112
        refine start_ (n := 17) (S := fun w' => w'.cell? (ad109.add (x8_1).toNat) = some (.int .i64 (rd x7_1 x8_1)) ∧ w'.cell? (ad110.add ((rd x7_1 x8_1)).toNat) = some (.int .i64 (rd l0 (rd x7_1 x8_1))) ∧ w'.cell? (ad109.add (x8_1).toNat) = some (.int .i64 (rd x7_1 x8_1)) ∧ w'.cell? (ad112.add ((rd x7_1 x8_1)).toNat) = some (.int .i64 (rd l1 (rd x7_1 x8_1)))) (ds := []) (bl_ 17 0) (by kernel_rfl) rfl (by kernel_rfl) ⟨hx109_0, ((HB.out.cell (World.block_lt_of_cell? w _ hw110_0)).trans hw110_0), hx111_0, ((HB.out.cell (World.block_lt_of_cell? w _ hw112_0)).trans hw112_0)⟩ (fun hHeld => ?_); refine with_tabW spec_l02Reach.tab5 spec_l02Reach.bits5 (fun HT_ HW_ => ?_)
        generalize wr.drew = w12 at HO_7 HB hx109_0 hx110_0 hx111_0 hx112_0 hHeld ⊢
        refine pu_ 0 (some 19) (bl_ 17 1) HT_ ?_
        refine pu_ 1 (some 20) (bl_ 17 3) HT_ ?_
        refine pu_ 2 (some 21) (bl_ 17 7) HT_ ?_
        refine pu_ 3 (some 22) (bl_ 17 15) HT_ ?_
        refine pu_ 7 (some 26) (bl_ 17 143) HT_ ?_
        refine pu_ 8 (some 27) (bl_ 17 399) HT_ ?_
        refine pu_ 9 (some 28) (bl_ 17 911) HT_ ?_
        refine pu_ 10 (some 29) (bl_ 17 1935) HT_ ?_
        refine pu_ 16 (some 35) (bl_ 17 67471) HT_ ?_
        refine ta_ 4 (some 23) (bl_ 17 67487) HT_ HW_ hHeld ?_
        refine pu_ 5 (some 24) (bl_ 17 67519) HT_ ?_
        refine ta_ 6 (some 25) (bl_ 17 67583) HT_ HW_ hHeld ?_
        refine ta_ 11 (some 30) (bl_ 17 69631) HT_ HW_ hHeld ?_
        refine pu_ 12 (some 31) (bl_ 17 73727) HT_ ?_
        refine ta_ 13 (some 32) (bl_ 17 81919) HT_ HW_ hHeld ?_
        refine on_ 14 (some 33) (bl_ 17 98303) HT_ (fun K hK => ?_)
        refine Kd.R_lit_step (Kd.int .i64) _ 3 ?hg (N := 33) ?hd (xs := ([rd l0 (rd x7_1 x8_1), rd l1 (rd x7_1 x8_1)] : List Int)) (inner := [.int .i64 (rd l0 (rd x7_1 x8_1)), .int .i64 (rd l1 (rd x7_1 x8_1))]) (ok := fun _ => True) (okp := fun _ => True) ?hr ?hp (fun _ hk => hk) trivial (Below.refl _ _) (Nat.le_refl _) (by simp) ?_; (case hd => rfl); (case hg => rfl); (case hr => first | (go_simp; done) | (go_simp; rfl)); (case hp => exact (Reps.one (show Kd.M (Kd.int .i64) _ _ _ (rd l0 (rd x7_1 x8_1)) [.int .i64 (rd l0 (rd x7_1 x8_1))] from rfl) (Reps.one (show Kd.M (Kd.int .i64) _ _ _ (rd l1 (rd x7_1 x8_1)) [.int .i64 (rd l1 (rd x7_1 x8_1))] from rfl) (Reps.none _ _))))
        intro v114 w13 ho14 hb hg_ hnew_
        have HS0_ := (hb.cell (World.block_lt_of_cell? _ _ (hHeld.1))).trans (hHeld.1)
        have HS2_ := (hb.cell (World.block_lt_of_cell? _ _ (hHeld.2.2.1))).trans (hHeld.2.2.1)
        clear hg_ hnew_
        (first | rw [← Ny113.out] at ho14 | (simp only [Int.reduceToNat] at ho14; rw [← Ny113.out] at ho14))
        have HO115 := Aside0.mk (Kd.R_lower (Kd.R_new' ho14 (Kd.R_lt (rr_ HO_7))) (below_size hB_))
        replace HO_7 := Aside0.mk (Kd.R_elder' (rr_ HO_7) (Kd.R_base ho14) hb)
        replace HB := b1_ hb
        clear hb ho14
        obtain ⟨Ao15, co15, eo15⟩ := Kd.R_slice HO115.out
        (first | subst eo15 | (injection eo15 with f1_ f2_ f3_; have f4_ := f1_.symm; have f5_ := f3_.symm; clear f1_ f2_ f3_; subst f4_; subst f5_))
        refine hK.out _ _ ⟨HS0_, ((HB.out.cell (World.block_lt_of_cell? w _ hw110_0)).trans hw110_0), HS2_, ((HB.out.cell (World.block_lt_of_cell? w _ hw112_0)).trans hw112_0)⟩ (fun hHeld => ?_)
        clear hK K
        refine no_ (some 33) ?_
        refine pu_ 15 (some 34) (bl_ 17 131071) HT_ ?_
        refine done_ (done_of HT_.out (by kernel_rfl)) ?_
        try go_wp2
        go_loopg [7, 35] k1 (fun kq v7 v35 w' => ∃ (x7_2 : List Int) (x35_2 : Int), v35 = .int .i64 x35_2 ∧ Aside0 (spec_l02Reach.l1 kq l0 l1 x7_2 x8_1 y113 (y113.length : Int) x35_2 = some r) ∧ Aside0 (kq ≤ k1) ∧ Aside0 (Kd.R (Kd.int .i64) 3 w' w.heap.size (fun k_ => some k_ ≠ ((.slice Ao15 y113.length co15) : Value).ownBlock) v7 x7_2) ∧ Aside0 (Kd.R (Kd.int .i64) 3 w' w.heap.size (fun k_ => some k_ ≠ (v7 : Value).ownBlock) (.slice Ao15 y113.length co15) y113) ∧ Aside0 (Below w.heap.size w w'))
        case atStart => exact ⟨(x7_1), (0), qc_, H', ⟨Nat.le_refl _⟩, ⟨(rw_ (Kd.R_mono HO_7.out (fun _ hk => hk.2)))⟩, ⟨(rw_ (Kd.R_mono HO115.out (fun _ hk => hk.2)))⟩, ⟨hB_⟩⟩
        case round =>
          clear H'
          obtain ⟨x7_2, x35_2, rfl, HA, HK2, HO_7, HO_33, HB⟩ := hrel
          cases gk with
          | zero => exact absurd HA.out (by simp [spec_l02Reach.l1])
          | succ k2 =>
            have H := HA.out
            clear HA
            simp only [spec_l02Reach.l1] at H
            by_cases c16 : x35_2 < (y113.length : Int)
            · rw [if_pos c16] at H
              have c16b0 := decide_eq_true c16
              clear c16
              have c17 := cp_ H
              replace H := ca_ H
              have c17b0 := decide_eq_true c17
              clear c17
              have c18 := cp_ H
              replace H := ca_ H
              have c18b0 := decide_eq_true c18
              clear c18
              obtain ⟨t117, A19, H⟩ := bi_ H
              by_cases c20 : t117 = true
              · subst c20
                rw [if_pos rfl] at H
                have H' := Aside0.mk H
                clear H
                have p116 : 0 ≤ (x35_2 : Int) := of_decide_eq_true qe_
                have q116 : x35_2 < (y113.length : Int) := of_decide_eq_true qe_
                obtain ⟨ad116, e116, hx116_0⟩ := Kd.at_int (Kd.R_reads' HO_33.out).2.2 x35_2 p116 q116
                cases e116
                replace p116 := eq_true p116
                replace q116 := eq_true q116
                obtain ⟨Ao21, co21, eo21⟩ := Kd.R_slice HO_7.out
                subst eo21
                go_wp2_with (first | ((with_reducible refine gate_callee (f := 163) rfl ?_); refine gL_ (some 41) Try.func163 #[.slice Ao21 x7_2.length co21, .int .i64 (rd y113 x35_2)] rfl qa_ ?_; (with_reducible refine (spec_l02Has.calls k2 _ _ x7_2 (rd y113 x35_2) true _ (cr_ HO_7) ((Kd.R_reads' HO_7.out).2.1) A19.out).mono ?_); rintro e w' ⟨rfl, ⟨nd, rfl⟩⟩; refine ⟨_, rfl, ?_⟩))
                go_roundg k2
                case measure => have := HK1.out; have := HK2.out; omega
                case rel => exact ⟨(x7_2), (wrap64 (x35_2 + 1)), qc_, H', ⟨by have := HK1.out; have := HK2.out; omega⟩, ⟨(rr_ HO_7)⟩, ⟨(rr_ HO_33)⟩, ⟨hB_⟩⟩
              · replace c20 := Bool.eq_false_iff.mpr c20
                subst c20
                have H1 : (if x7_2.length < 17592186044416 then (spec_l02Reach.l1 k2 l0 l1 (x7_2 ++ [rd y113 x35_2]) x8_1 y113 (y113.length : Int) (wrap64 (x35_2 + 1))) else (none)) = some r := by rw [if_neg (show ¬ (false = true) by decide)] at H; exact H
                clear H
                have H := H1
                clear H1
                have c22 := cp_ H
                replace H := ca_ H
                have LMc22 := Aside0.mk c22
                clear c22
                obtain ⟨y118, hy118⟩ : ∃ y_ : List Int, y_ = (x7_2 ++ [rd y113 x35_2]) := ⟨_, rfl⟩
                replace H : (spec_l02Reach.l1 k2 l0 l1 y118 x8_1 y113 (y113.length : Int) (wrap64 (x35_2 + 1))) = some r := by first | (rw [hy118]; exact H) | exact H
                have Ny118 := Aside0.mk hy118
                clear hy118
                have H' := Aside0.mk H
                clear H
                have p116 : 0 ≤ (x35_2 : Int) := of_decide_eq_true qe_
                have q116 : x35_2 < (y113.length : Int) := of_decide_eq_true qe_
                obtain ⟨ad116, e116, hx116_0⟩ := Kd.at_int (Kd.R_reads' HO_33.out).2.2 x35_2 p116 q116
                cases e116
                replace p116 := eq_true p116
                replace q116 := eq_true q116
                obtain ⟨Ao23, co23, eo23⟩ := Kd.R_slice HO_7.out
                subst eo23
                go_wp2_with (first | ((with_reducible refine gate_callee (f := 163) rfl ?_); refine gL_ (some 41) Try.func163 #[.slice Ao23 x7_2.length co23, .int .i64 (rd y113 x35_2)] rfl qa_ ?_; (with_reducible refine (spec_l02Has.calls k2 _ _ x7_2 (rd y113 x35_2) false _ (cr_ HO_7) ((Kd.R_reads' HO_7.out).2.1) A19.out).mono ?_); rintro e w' ⟨rfl, ⟨nd, rfl⟩⟩; refine ⟨_, rfl, ?_⟩) | ((with_reducible refine gate_builtin (b := .append) (xs := #[.tmp 43, .tmp 45]) rfl ?_); at_builtin; refine Kd.R_append (Kd.int .i64) (w0 := w) w.heap.size rfl (.tmp 43) (.tmp 45) 23 3 (.int .i64 0) 8 rfl Try.underlying23 info3 rfl (by decide) (by omega) (.slice Ao23 x7_2.length co23) x7_2 (rd y113 x35_2) [.int .i64 (rd y113 x35_2)] (fun k_ => some k_ ≠ (.slice (some ad116) y113.length co15 : Value).ownBlock) (fun _ => False) rfl rfl ?aP (fun _ hk => hk.elim) ?aF ?aO ?aB ?aS ?aL ?_; (case aP => exact rfl); (case aB => exact hB_); (case aF => exact (fun k_ hk => Kd.fresh' (Kd.R_lt (rr_ HO_33)) k_ hk)); (case aO => exact (rr_ HO_7)); (case aS => exact (below_size hB_)); (case aL => have := LMc22.out; omega); intro v119 w24 ho hb hg hat; rw [← Ny118.out] at ho; replace HO_33 := Aside0.mk (Kd.R_after (ok := (fun _ => True)) (rw_ (Kd.R_mono HO_33.out (fun _ hk => ⟨trivial, hk⟩))) hg hat); replace HB := Aside0.mk hb; have HO120 := Aside0.mk ho; clear HO_7; clear ho hb hg hat))
                go_roundg k2
                case measure => have := HK1.out; have := HK2.out; omega
                case rel => exact ⟨(y118), (wrap64 (x35_2 + 1)), qc_, H', ⟨by have := HK1.out; have := HK2.out; omega⟩, ⟨(rr_ HO120)⟩, ⟨(rw_ (Kd.R_mono HO_33.out (fun _ hk => hk.2)))⟩, ⟨hB_⟩⟩
            · rw [if_neg c16] at H
              have c16b0 := decide_eq_false c16
              clear c16
              have H' := Aside0.mk H
              clear H
              go_wp2
              go_roundg k2
              case measure => have := HK1.out; have := HK2.out; omega
              case rel => exact ⟨(x7_2), (wrap64 (x8_1 + 1)), qc_, H', ⟨by have := HK1.out; have := HK2.out; omega⟩, ⟨(rw_ (Kd.R_mono HO_7.out (fun _ hk => trivial)))⟩, ⟨hB_⟩⟩
      · rw [if_neg c6] at H
        have c6b0 := decide_eq_false c6
        clear c6
        obtain rfl := Option.some.inj H
        obtain ⟨Ao25, co25, eo25⟩ := Kd.R_slice HO_7.out
        subst eo25
        go_wp2
        go_ret
        exact ⟨_, qb_, (rr_ HO_7), hB_⟩
end Go.Proofs.Ytcggfjpnfodbaaa.A
end
section
namespace Go.Proofs.Ytcggfjpnfodbaaa.A
open Go.RowKit Go.Proofs.YtcggfjpnfodbaaaW.PrintWords Go.Proofs.YtcggfjpnfodbaaaW.PrintLast Go.Proofs.YtcggfjpnfodbaaaW.PrintMore
attribute [local go_sem] max2_int min2_int max_two min_two max_three min_three max_four min_four
set_option linter.unusedVariables false
set_option linter.unusedSimpArgs false
def spec_IsTransitive.f (k : Nat) (l0 : List Int) (l1 : List Int) : Option (Bool) := (spec_PermOk.f k l0).bind fun t121 => (if t121 = true then ((spec_PermOk.f k l1).bind fun t122 => (if t122 = true then (if (l0.length : Int) = (l1.length : Int) then (if (l0.length : Int) > 0 then ((spec_l02Reach.f k l0 l1 0).bind fun t123 => (some ((t123.length : Int) == (l0.length : Int)))) else (some false)) else (some false)) else (some false))) else (some false))
theorem spec_IsTransitive.mono : ∀ a0 a1 k, LeO (spec_IsTransitive.f k a0 a1) (spec_IsTransitive.f (k + 1) a0 a1) := by
  intro a0 a1 k
  unfold spec_IsTransitive.f
  repeat' first|exact spec_PermOk.mono _ _|exact spec_l02Reach.mono _ _ _ _|exact lo_|refine LeO.ite ?_ ?_|refine LeO.bind ?_ (fun _ => ?_)
set_option maxHeartbeats 8000000 in
set_option maxRecDepth 100000 in
theorem spec_IsTransitive.calls (k : Nat) (A0 : Option Addr) (c0 : Nat) (l0 : List Int) (A1 : Option Addr) (c1 : Nat) (l1 : List Int) (r : Bool) (w : World) (hr0 : Kd.C (Kd.int .i64) w A0 l0.length l0) (hc0 : l0.length ≤ c0) (hr1 : Kd.C (Kd.int .i64) w A1 l1.length l1) (hc1 : l1.length ≤ c1) (h : spec_IsTransitive.f k l0 l1 = some r) :
    Calls Try.prog 117 #[.slice A0 l0.length c0, .slice A1 l1.length c1] w fun e w' => e = .returned (.bool r) ∧ Below w.heap.size w w' := by
  have HR0 := Aside0.mk hr0
  have HC0 := Aside0.mk hc0
  clear hr0 hc0
  have HR1 := Aside0.mk hr1
  have HC1 := Aside0.mk hc1
  clear hr1 hc1
  have HB := Aside0.mk (Below.refl w.heap.size w)
  have H := h
  unfold spec_IsTransitive.f at H
  clear h
  obtain ⟨t121, A3, H⟩ := bi_ H
  by_cases c4 : t121 = true
  · subst c4
    rw [if_pos rfl] at H
    obtain ⟨t122, A5, H⟩ := bi_ H
    by_cases c6 : t122 = true
    · subst c6
      rw [if_pos rfl] at H
      by_cases c7 : (l0.length : Int) = (l1.length : Int)
      · rw [if_pos c7] at H
        have c7b0 : ((l0.length : Int) == (l1.length : Int)) = true := beq_iff_eq.mpr c7
        have c7b1 : ((l0.length : Int) != (l1.length : Int)) = false := bne_eq_false_iff_eq.mpr c7
        have c7b2 : (l0.length == l1.length) = true := by first | simpa using c7 | (simp at c7 ⊢; omega)
        clear c7
        by_cases c8 : (l0.length : Int) > 0
        · rw [if_pos c8] at H
          have c8b0 : decide (0 < (l0.length : Int)) = true := decide_eq_true c8
          have c8b1 : decide (0 < l0.length) = true := decide_eq_true (by omega)
          clear c8
          obtain ⟨t123, A9, H⟩ := bi_ H
          obtain rfl := Option.some.inj H
          go_enter Try.func117, Try.ntmps117
          go_wp2_with (first | ((with_reducible refine gate_callee (f := 146) rfl ?_); refine gL_ (some 6) Try.func146 #[.slice A0 l0.length c0] rfl qa_ ?_; (with_reducible refine (spec_PermOk.calls k _ _ l0 true _ (cc_ HR0) HC0.out A3.out).mono ?_); rintro e w' ⟨rfl, ⟨nd, rfl⟩⟩; refine ⟨_, rfl, ?_⟩) | (go_at_call 146; (with_reducible refine (spec_PermOk.calls k _ _ l1 true _ (cc_ HR1) HC1.out A5.out).mono ?_); rintro e w' ⟨rfl, ⟨nd, rfl⟩⟩) | (go_at_call 147; (with_reducible refine (spec_l02Reach.calls k _ _ l0 _ _ l1 0 t123 _ (cc_ HR0) HC0.out (cc_ HR1) HC1.out A9.out).mono ?_); rintro e w10 ⟨v124, rfl, ho0, hb⟩; have HO125 := rl_ w ho0; replace HB := b1_ hb; clear hb ho0; obtain ⟨Ao11, co11, eo11⟩ := Kd.R_slice HO125.out; subst eo11))
          go_ret
          exact ⟨qb_, hB_⟩
        · rw [if_neg c8] at H
          have c8b0 : decide (0 < (l0.length : Int)) = false := decide_eq_false c8
          have c8b1 : decide (0 < l0.length) = false := decide_eq_false (by omega)
          clear c8
          obtain rfl := Option.some.inj H
          go_enter Try.func117, Try.ntmps117
          go_wp2_with (first | ((with_reducible refine gate_callee (f := 146) rfl ?_); refine gL_ (some 6) Try.func146 #[.slice A0 l0.length c0] rfl qa_ ?_; (with_reducible refine (spec_PermOk.calls k _ _ l0 true _ (cc_ HR0) HC0.out A3.out).mono ?_); rintro e w' ⟨rfl, ⟨nd, rfl⟩⟩; refine ⟨_, rfl, ?_⟩) | (go_at_call 146; (with_reducible refine (spec_PermOk.calls k _ _ l1 true _ (cc_ HR1) HC1.out A5.out).mono ?_); rintro e w' ⟨rfl, ⟨nd, rfl⟩⟩))
          go_ret
          exact ⟨qb_, hB_⟩
      · rw [if_neg c7] at H
        have c7b0 : ((l0.length : Int) == (l1.length : Int)) = false := beq_eq_false_iff_ne.mpr c7
        have c7b1 : ((l0.length : Int) != (l1.length : Int)) = true := bne_iff_ne.mpr c7
        have c7b2 : (l0.length == l1.length) = false := by first | simpa using c7 | (simp at c7 ⊢; omega)
        obtain rfl := Option.some.inj H
        go_enter Try.func117, Try.ntmps117
        go_wp2_with (first | ((with_reducible refine gate_callee (f := 146) rfl ?_); refine gL_ (some 6) Try.func146 #[.slice A0 l0.length c0] rfl qa_ ?_; (with_reducible refine (spec_PermOk.calls k _ _ l0 true _ (cc_ HR0) HC0.out A3.out).mono ?_); rintro e w' ⟨rfl, ⟨nd, rfl⟩⟩; refine ⟨_, rfl, ?_⟩) | (go_at_call 146; (with_reducible refine (spec_PermOk.calls k _ _ l1 true _ (cc_ HR1) HC1.out A5.out).mono ?_); rintro e w' ⟨rfl, ⟨nd, rfl⟩⟩))
        go_ret
        exact ⟨qb_, hB_⟩
    · replace c6 := Bool.eq_false_iff.mpr c6
      subst c6
      have H1 : (some false) = some r := by rw [if_neg (show ¬ (false = true) by decide)] at H; exact H
      clear H
      have H := H1
      clear H1
      obtain rfl := Option.some.inj H
      go_enter Try.func117, Try.ntmps117
      go_wp2_with (first | ((with_reducible refine gate_callee (f := 146) rfl ?_); refine gL_ (some 6) Try.func146 #[.slice A0 l0.length c0] rfl qa_ ?_; (with_reducible refine (spec_PermOk.calls k _ _ l0 true _ (cc_ HR0) HC0.out A3.out).mono ?_); rintro e w' ⟨rfl, ⟨nd, rfl⟩⟩; refine ⟨_, rfl, ?_⟩) | (go_at_call 146; (with_reducible refine (spec_PermOk.calls k _ _ l1 false _ (cc_ HR1) HC1.out A5.out).mono ?_); rintro e w' ⟨rfl, ⟨nd, rfl⟩⟩))
      go_ret
      exact ⟨qb_, hB_⟩
  · replace c4 := Bool.eq_false_iff.mpr c4
    subst c4
    have H1 : (some false) = some r := by rw [if_neg (show ¬ (false = true) by decide)] at H; exact H
    clear H
    have H := H1
    clear H1
    obtain rfl := Option.some.inj H
    go_enter Try.func117, Try.ntmps117
    go_wp2_with (first | ((with_reducible refine gate_callee (f := 146) rfl ?_); refine gL_ (some 6) Try.func146 #[.slice A0 l0.length c0] rfl qa_ ?_; (with_reducible refine (spec_PermOk.calls k _ _ l0 false _ (cc_ HR0) HC0.out A3.out).mono ?_); rintro e w' ⟨rfl, ⟨nd, rfl⟩⟩; refine ⟨_, rfl, ?_⟩))
    go_ret
    exact ⟨qb_, hB_⟩
end Go.Proofs.Ytcggfjpnfodbaaa.A
end
section
namespace Go.Proofs.Ytcggfjpnfodbaaa.A
open Go.RowKit Go.Proofs.YtcggfjpnfodbaaaW.PrintWords Go.Proofs.YtcggfjpnfodbaaaW.PrintLast Go.Proofs.YtcggfjpnfodbaaaW.PrintMore
attribute [local go_sem] max2_int min2_int max_two min_two max_three min_three max_four min_four
set_option linter.unusedVariables false
set_option linter.unusedSimpArgs false
def spec_SurfaceOk.f (k : Nat) (l0_0 : List Int) (l0_1 : List Int) : Option (Bool) := (spec_IsTransitive.f k l0_0 l0_1).bind fun t127 => (some t127)
theorem spec_SurfaceOk.mono : ∀ a0 a1 k, LeO (spec_SurfaceOk.f k a0 a1) (spec_SurfaceOk.f (k + 1) a0 a1) := by
  intro a0 a1 k
  unfold spec_SurfaceOk.f
  repeat' first|exact spec_IsTransitive.mono _ _ _|exact lo_|refine LeO.ite ?_ ?_|refine LeO.bind ?_ (fun _ => ?_)
set_option maxHeartbeats 8000000 in
set_option maxRecDepth 100000 in
theorem spec_SurfaceOk.calls (k : Nat) (A0_0 : Option Addr) (c0_0 : Nat) (l0_0 : List Int) (A0_1 : Option Addr) (c0_1 : Nat) (l0_1 : List Int) (r : Bool) (w : World) (hr0_0 : Kd.C (Kd.int .i64) w A0_0 l0_0.length l0_0) (hc0_0 : l0_0.length ≤ c0_0) (hr0_1 : Kd.C (Kd.int .i64) w A0_1 l0_1.length l0_1) (hc0_1 : l0_1.length ≤ c0_1) (h : spec_SurfaceOk.f k l0_0 l0_1 = some r) :
    Calls Try.prog 80 #[.agg #[.slice A0_0 l0_0.length c0_0, .slice A0_1 l0_1.length c0_1]] w fun e w' => e = .returned (.bool r) ∧ Below w.heap.size w w' := by
  have hu25 := Try.underlying25
  have HR0_0 := Aside0.mk hr0_0
  have HC0_0 := Aside0.mk hc0_0
  clear hr0_0 hc0_0
  have HR0_1 := Aside0.mk hr0_1
  have HC0_1 := Aside0.mk hc0_1
  clear hr0_1 hc0_1
  have HB := Aside0.mk (Below.refl w.heap.size w)
  have H := h
  unfold spec_SurfaceOk.f at H
  clear h
  obtain ⟨t127, A2, H⟩ := bi_ H
  obtain rfl := Option.some.inj H
  go_enter Try.func80, Try.ntmps80
  go_wp2_with (first | ((with_reducible refine gate_dst (N := 1) rfl ?_); refine bx_ 1 #[.slice A0_0 l0_0.length c0_0, .slice A0_1 l0_1.length c0_1] 25 ?_; intro gb126 hg w3 hbox hb; have BK126 := Aside0.mk hbox; have GW126 := gw_ w hg; have GE126 := GW126; replace HB := b1_ hb; clear hb hbox hg; obtain ⟨hcz4_0, hcz4_1, hfz4_0, hfz4_1⟩ := c2_ BK126) | ((with_reducible refine gate_callee (f := 117) rfl ?_); refine gL_ (some 7) Try.func117 #[.slice A0_0 l0_0.length c0_0, .slice A0_1 l0_1.length c0_1] rfl qa_ ?_; (with_reducible refine (spec_IsTransitive.calls k _ _ l0_0 _ _ l0_1 t127 _ (cb_ HR0_0) HC0_0.out (cb_ HR0_1) HC0_1.out A2.out).mono ?_); rintro e w5 ⟨rfl, hb⟩; refine ⟨_, rfl, ?_⟩; replace BK126 := bb_ BK126 hb; replace HB := b1_ hb; clear hb))
  go_ret
  exact ⟨qb_, hB_⟩
end Go.Proofs.Ytcggfjpnfodbaaa.A
end
section
namespace Go.Proofs.Ytcggfjpnfodbaaa.A
open Go.RowKit Go.Proofs.YtcggfjpnfodbaaaW.PrintWords Go.Proofs.YtcggfjpnfodbaaaW.PrintLast Go.Proofs.YtcggfjpnfodbaaaW.PrintMore
attribute [local go_sem] max2_int min2_int max_two min_two max_three min_three max_four min_four
set_option linter.unusedVariables false
set_option linter.unusedSimpArgs false
def spec_SameList.l0 : Nat → List Int → List Int → Int → Int → Option (Bool)
  | 0, _, _, _, _ => none
  | k + 1, x1, x12, x13, x14 => if x14 < x13 then (if 0 ≤ x14 then (if x14 < (x12.length : Int) then (if x14 < (x1.length : Int) then (if (rd x12 x14) = (rd x1 x14) then (spec_SameList.l0 k x1 x12 x13 (wrap64 (x14 + 1))) else (some false)) else (none)) else (none)) else (none)) else (some true)
def spec_SameList.f (k : Nat) (l0 : List Int) (l1 : List Int) : Option (Bool) := if (l0.length : Int) = (l1.length : Int) then (spec_SameList.l0 k l1 l0 (l0.length : Int) 0) else (some false)
theorem spec_SameList.mono_l : ∀ k, (∀ y0 y1 y2 y3, LeO (spec_SameList.l0 k y0 y1 y2 y3) (spec_SameList.l0 (k + 1) y0 y1 y2 y3))
  | 0 => fun _ _ _ _ r h => by simp [spec_SameList.l0] at h
  | k + 1 => by
    have ih0 := spec_SameList.mono_l k
    · intro y0 y1 y2 y3
      unfold spec_SameList.l0
      repeat' first|exact ih0 _ _ _ _|exact lo_|refine LeO.ite ?_ ?_|refine LeO.bind ?_ (fun _ => ?_)
theorem spec_SameList.mono : ∀ a0 a1 k, LeO (spec_SameList.f k a0 a1) (spec_SameList.f (k + 1) a0 a1) := by
  intro a0 a1 k
  have ih0 := spec_SameList.mono_l k
  unfold spec_SameList.f
  repeat' first|exact ih0 _ _ _ _|exact lo_|refine LeO.ite ?_ ?_|refine LeO.bind ?_ (fun _ => ?_)
set_option maxHeartbeats 8000000 in
set_option maxRecDepth 100000 in
theorem spec_SameList.calls (k : Nat) (A0 : Option Addr) (c0 : Nat) (l0 : List Int) (A1 : Option Addr) (c1 : Nat) (l1 : List Int) (r : Bool) (w : World) (hr0 : Kd.C (Kd.int .i64) w A0 l0.length l0) (hc0 : l0.length ≤ c0) (hr1 : Kd.C (Kd.int .i64) w A1 l1.length l1) (hc1 : l1.length ≤ c1) (h : spec_SameList.f k l0 l1 = some r) :
    Calls Try.prog 148 #[.slice A0 l0.length c0, .slice A1 l1.length c1] w fun e w' => e = .returned (.bool r) ∧ Drawn0 w w' := by
  have HR0 := Aside0.mk hr0
  have HC0 := Aside0.mk hc0
  clear hr0 hc0
  have HR1 := Aside0.mk hr1
  have HC1 := Aside0.mk hc1
  clear hr1 hc1
  have H := h
  unfold spec_SameList.f at H
  clear h
  by_cases c3 : (l0.length : Int) = (l1.length : Int)
  · rw [if_pos c3] at H
    have c3b0 : ((l0.length : Int) == (l1.length : Int)) = true := beq_iff_eq.mpr c3
    have c3b1 : ((l0.length : Int) != (l1.length : Int)) = false := bne_eq_false_iff_eq.mpr c3
    have c3b2 : (l0.length == l1.length) = true := by first | simpa using c3 | (simp at c3 ⊢; omega)
    clear c3
    have H' := Aside0.mk H
    clear H
    go_enter Try.func148, Try.ntmps148
    go_wp2
    go_loopg [14] k (fun kq v14 w' => ∃ (x14_1 : Int), v14 = .int .i64 x14_1 ∧ Aside0 (spec_SameList.l0 kq l1 l0 (l0.length : Int) x14_1 = some r) ∧ Aside0 (kq ≤ k) ∧ Drawn0 w w')
    case atStart => exact ⟨(0), qc_, H', ⟨Nat.le_refl _⟩, by repeat (first | exact Drawn0.refl _ | apply Drawn0.step)⟩
    case round =>
      clear H'
      obtain ⟨x14_1, rfl, HA, HK1, ⟨m1, rfl⟩⟩ := hrel
      cases gk with
      | zero => exact absurd HA.out (by simp [spec_SameList.l0])
      | succ k1 =>
        have H := HA.out
        clear HA
        simp only [spec_SameList.l0] at H
        by_cases c4 : x14_1 < (l0.length : Int)
        · rw [if_pos c4] at H
          have c4b0 := decide_eq_true c4
          clear c4
          have c5 := cp_ H
          replace H := ca_ H
          have c5b0 := decide_eq_true c5
          clear c5
          have c6 := cp_ H
          replace H := ca_ H
          have c6b0 := decide_eq_true c6
          clear c6
          have c7 := cp_ H
          replace H := ca_ H
          have c7b0 := decide_eq_true c7
          clear c7
          by_cases c8 : (rd l0 x14_1) = (rd l1 x14_1)
          · rw [if_pos c8] at H
            have c8b0 : ((rd l0 x14_1) == (rd l1 x14_1)) = true := beq_iff_eq.mpr c8
            have c8b1 : ((rd l0 x14_1) != (rd l1 x14_1)) = false := bne_eq_false_iff_eq.mpr c8
            clear c8
            have H' := Aside0.mk H
            clear H
            have p720 : 0 ≤ (x14_1 : Int) := of_decide_eq_true qe_
            have q720 : x14_1 < (l0.length : Int) := of_decide_eq_true qe_
            obtain ⟨ad720, e720, hx720_0⟩ := Kd.at_int HR0.out x14_1 p720 q720
            cases e720
            replace p720 := eq_true p720
            replace q720 := eq_true q720
            have p721 : 0 ≤ (x14_1 : Int) := of_decide_eq_true qe_
            have q721 : x14_1 < (l1.length : Int) := of_decide_eq_true qe_
            obtain ⟨ad721, e721, hx721_0⟩ := Kd.at_int HR1.out x14_1 p721 q721
            cases e721
            replace p721 := eq_true p721
            replace q721 := eq_true q721
            go_wp2
            go_roundg k1
            case measure => have := HK1.out; omega
            case rel => exact ⟨(wrap64 (x14_1 + 1)), qc_, H', ⟨by have := HK1.out; omega⟩, by repeat (first | exact Drawn0.refl _ | apply Drawn0.step)⟩
          · rw [if_neg c8] at H
            have c8b0 : ((rd l0 x14_1) == (rd l1 x14_1)) = false := beq_eq_false_iff_ne.mpr c8
            have c8b1 : ((rd l0 x14_1) != (rd l1 x14_1)) = true := bne_iff_ne.mpr c8
            obtain rfl := Option.some.inj H
            have p720 : 0 ≤ (x14_1 : Int) := of_decide_eq_true qe_
            have q720 : x14_1 < (l0.length : Int) := of_decide_eq_true qe_
            obtain ⟨ad720, e720, hx720_0⟩ := Kd.at_int HR0.out x14_1 p720 q720
            cases e720
            replace p720 := eq_true p720
            replace q720 := eq_true q720
            have p721 : 0 ≤ (x14_1 : Int) := of_decide_eq_true qe_
            have q721 : x14_1 < (l1.length : Int) := of_decide_eq_true qe_
            obtain ⟨ad721, e721, hx721_0⟩ := Kd.at_int HR1.out x14_1 p721 q721
            cases e721
            replace p721 := eq_true p721
            replace q721 := eq_true q721
            go_wp2
            go_ret
            exact ⟨qc_, by repeat (first | exact Drawn0.refl _ | apply Drawn0.step)⟩
        · rw [if_neg c4] at H
          have c4b0 := decide_eq_false c4
          clear c4
          obtain rfl := Option.some.inj H
          go_wp2
          go_ret
          exact ⟨qc_, by repeat (first | exact Drawn0.refl _ | apply Drawn0.step)⟩
  · rw [if_neg c3] at H
    have c3b0 : ((l0.length : Int) == (l1.length : Int)) = false := beq_eq_false_iff_ne.mpr c3
    have c3b1 : ((l0.length : Int) != (l1.length : Int)) = true := bne_iff_ne.mpr c3
    have c3b2 : (l0.length == l1.length) = false := by first | simpa using c3 | (simp at c3 ⊢; omega)
    obtain rfl := Option.some.inj H
    go_enter Try.func148, Try.ntmps148
    go_wp2
    go_ret
    exact ⟨qc_, by repeat (first | exact Drawn0.refl _ | apply Drawn0.step)⟩
end Go.Proofs.Ytcggfjpnfodbaaa.A
end
section
namespace Go.Proofs.Ytcggfjpnfodbaaa.A
open Go.RowKit Go.Proofs.YtcggfjpnfodbaaaW.PrintWords Go.Proofs.YtcggfjpnfodbaaaW.PrintLast Go.Proofs.YtcggfjpnfodbaaaW.PrintMore
attribute [local go_sem] max2_int min2_int max_two min_two max_three min_three max_four min_four
set_option linter.unusedVariables false
set_option linter.unusedSimpArgs false
def spec_SameSurface.f (k : Nat) (l0_0 : List Int) (l0_1 : List Int) (l1_0 : List Int) (l1_1 : List Int) : Option (Bool) := (spec_SameList.f k l0_0 l1_0).bind fun t724 => (if t724 = true then ((spec_SameList.f k l0_1 l1_1).bind fun t725 => (some t725)) else (some false))
theorem spec_SameSurface.mono : ∀ a0 a1 a2 a3 k, LeO (spec_SameSurface.f k a0 a1 a2 a3) (spec_SameSurface.f (k + 1) a0 a1 a2 a3) := by
  intro a0 a1 a2 a3 k
  unfold spec_SameSurface.f
  repeat' first|exact spec_SameList.mono _ _ _|exact lo_|refine LeO.ite ?_ ?_|refine LeO.bind ?_ (fun _ => ?_)
set_option maxHeartbeats 8000000 in
set_option maxRecDepth 100000 in
theorem spec_SameSurface.calls (k : Nat) (A0_0 : Option Addr) (c0_0 : Nat) (l0_0 : List Int) (A0_1 : Option Addr) (c0_1 : Nat) (l0_1 : List Int) (A1_0 : Option Addr) (c1_0 : Nat) (l1_0 : List Int) (A1_1 : Option Addr) (c1_1 : Nat) (l1_1 : List Int) (r : Bool) (w : World) (hr0_0 : Kd.C (Kd.int .i64) w A0_0 l0_0.length l0_0) (hc0_0 : l0_0.length ≤ c0_0) (hr0_1 : Kd.C (Kd.int .i64) w A0_1 l0_1.length l0_1) (hc0_1 : l0_1.length ≤ c0_1) (hr1_0 : Kd.C (Kd.int .i64) w A1_0 l1_0.length l1_0) (hc1_0 : l1_0.length ≤ c1_0) (hr1_1 : Kd.C (Kd.int .i64) w A1_1 l1_1.length l1_1) (hc1_1 : l1_1.length ≤ c1_1) (h : spec_SameSurface.f k l0_0 l0_1 l1_0 l1_1 = some r) :
    Calls Try.prog 118 #[.agg #[.slice A0_0 l0_0.length c0_0, .slice A0_1 l0_1.length c0_1], .agg #[.slice A1_0 l1_0.length c1_0, .slice A1_1 l1_1.length c1_1]] w fun e w' => e = .returned (.bool r) ∧ Below w.heap.size w w' := by
  have hu25 := Try.underlying25
  have HR0_0 := Aside0.mk hr0_0
  have HC0_0 := Aside0.mk hc0_0
  clear hr0_0 hc0_0
  have HR0_1 := Aside0.mk hr0_1
  have HC0_1 := Aside0.mk hc0_1
  clear hr0_1 hc0_1
  have HR1_0 := Aside0.mk hr1_0
  have HC1_0 := Aside0.mk hc1_0
  clear hr1_0 hc1_0
  have HR1_1 := Aside0.mk hr1_1
  have HC1_1 := Aside0.mk hc1_1
  clear hr1_1 hc1_1
  have HB := Aside0.mk (Below.refl w.heap.size w)
  have H := h
  unfold spec_SameSurface.f at H
  clear h
  obtain ⟨t724, A3, H⟩ := bi_ H
  by_cases c4 : t724 = true
  · subst c4
    rw [if_pos rfl] at H
    obtain ⟨t725, A5, H⟩ := bi_ H
    obtain rfl := Option.some.inj H
    go_enter Try.func118, Try.ntmps118
    go_wp2_with (first | ((with_reducible refine gate_dst (N := 2) rfl ?_); refine bx_ 2 #[.slice A0_0 l0_0.length c0_0, .slice A0_1 l0_1.length c0_1] 25 ?_; intro gb722 hg w6 hbox hb; have BK722 := Aside0.mk hbox; have GW722 := gw_ w hg; have GE722 := GW722; replace HB := b1_ hb; clear hb hbox hg) | ((with_reducible refine gate_dst (N := 3) rfl ?_); refine bx_ 3 #[.slice A1_0 l1_0.length c1_0, .slice A1_1 l1_1.length c1_1] 25 ?_; intro gb723 hg w7 hbox hb; have BK723 := Aside0.mk hbox; have GW723 := gw_ w hg; have GE723 := GW723; replace HB := b1_ hb; have NB722_723 := gN_ BK722 hg; have NB723_722 := gP_ BK722 hg; replace BK722 := bb_ BK722 hb; clear hb hbox hg; have hnb8 := NB722_723.out; have hnc8 := NB723_722.out; obtain ⟨hcz9_0, hcz9_1, hfz9_0, hfz9_1⟩ := c2_ BK722; obtain ⟨hcz10_0, hcz10_1, hfz10_0, hfz10_1⟩ := c2_ BK723) | ((with_reducible refine gate_callee (f := 148) rfl ?_); refine gL_ (some 9) Try.func148 #[.slice A0_0 l0_0.length c0_0, .slice A1_0 l1_0.length c1_0] rfl qa_ ?_; (with_reducible refine (spec_SameList.calls k _ _ l0_0 _ _ l1_0 true _ (cb_ HR0_0) HC0_0.out (cb_ HR1_0) HC1_0.out A3.out).mono ?_); rintro e w' ⟨rfl, ⟨nd, rfl⟩⟩; refine ⟨_, rfl, ?_⟩) | (go_at_call 148; (with_reducible refine (spec_SameList.calls k _ _ l0_1 _ _ l1_1 t725 _ (cw_ (Kd.C_below HR0_1.out hB_)) HC0_1.out (cw_ (Kd.C_below HR1_1.out hB_)) HC1_1.out A5.out).mono ?_); rintro e w' ⟨rfl, ⟨nd, rfl⟩⟩))
    go_ret
    exact ⟨qb_, hB_⟩
  · replace c4 := Bool.eq_false_iff.mpr c4
    subst c4
    have H1 : (some false) = some r := by rw [if_neg (show ¬ (false = true) by decide)] at H; exact H
    clear H
    have H := H1
    clear H1
    obtain rfl := Option.some.inj H
    go_enter Try.func118, Try.ntmps118
    go_wp2_with (first | ((with_reducible refine gate_dst (N := 2) rfl ?_); refine bx_ 2 #[.slice A0_0 l0_0.length c0_0, .slice A0_1 l0_1.length c0_1] 25 ?_; intro gb722 hg w11 hbox hb; have BK722 := Aside0.mk hbox; have GW722 := gw_ w hg; have GE722 := GW722; replace HB := b1_ hb; clear hb hbox hg) | ((with_reducible refine gate_dst (N := 3) rfl ?_); refine bx_ 3 #[.slice A1_0 l1_0.length c1_0, .slice A1_1 l1_1.length c1_1] 25 ?_; intro gb723 hg w12 hbox hb; have BK723 := Aside0.mk hbox; have GW723 := gw_ w hg; have GE723 := GW723; replace HB := b1_ hb; have NB722_723 := gN_ BK722 hg; have NB723_722 := gP_ BK722 hg; replace BK722 := bb_ BK722 hb; clear hb hbox hg; have hnb13 := NB722_723.out; have hnc13 := NB723_722.out; obtain ⟨hcz14_0, hcz14_1, hfz14_0, hfz14_1⟩ := c2_ BK722; obtain ⟨hcz15_0, hcz15_1, hfz15_0, hfz15_1⟩ := c2_ BK723) | ((with_reducible refine gate_callee (f := 148) rfl ?_); refine gL_ (some 9) Try.func148 #[.slice A0_0 l0_0.length c0_0, .slice A1_0 l1_0.length c1_0] rfl qa_ ?_; (with_reducible refine (spec_SameList.calls k _ _ l0_0 _ _ l1_0 false _ (cb_ HR0_0) HC0_0.out (cb_ HR1_0) HC1_0.out A3.out).mono ?_); rintro e w' ⟨rfl, ⟨nd, rfl⟩⟩; refine ⟨_, rfl, ?_⟩))
    go_ret
    exact ⟨qb_, hB_⟩
end Go.Proofs.Ytcggfjpnfodbaaa.A
end
section
namespace Go.Proofs.Ytcggfjpnfodbaaa.A
open Go.RowKit Go.Proofs.YtcggfjpnfodbaaaW.PrintWords Go.Proofs.YtcggfjpnfodbaaaW.PrintLast Go.Proofs.YtcggfjpnfodbaaaW.PrintMore
attribute [local go_sem] max2_int min2_int max_two min_two max_three min_three max_four min_four
set_option linter.unusedVariables false
set_option linter.unusedSimpArgs false
def spec_l06Find.l0 : Nat → List (S25) → Int → Int → List Int → List Int → Option (Int)
  | 0, _, _, _, _, _ => none
  | k + 1, x7, x8, x9, x727000, x727001 => if x9 < x8 then (if 0 ≤ x9 then (if x9 < (x7.length : Int) then ((spec_SameSurface.f k ((rd_T25 x7 x9).f0) ((rd_T25 x7 x9).f1) x727000 x727001).bind fun t729 => (if t729 = true then (some x9) else (spec_l06Find.l0 k x7 x8 (wrap64 (x9 + 1)) x727000 x727001))) else (none)) else (none)) else (some (-1))
def spec_l06Find.f (k : Nat) (l0 : List (S25)) (l1_0 : List Int) (l1_1 : List Int) : Option (Int) := spec_l06Find.l0 k l0 (l0.length : Int) 0 l1_0 l1_1
theorem spec_l06Find.mono_l : ∀ k, (∀ y0 y1 y2 y3 y4, LeO (spec_l06Find.l0 k y0 y1 y2 y3 y4) (spec_l06Find.l0 (k + 1) y0 y1 y2 y3 y4))
  | 0 => fun _ _ _ _ _ r h => by simp [spec_l06Find.l0] at h
  | k + 1 => by
    have ih0 := spec_l06Find.mono_l k
    · intro y0 y1 y2 y3 y4
      unfold spec_l06Find.l0
      repeat' first|exact ih0 _ _ _ _ _|exact spec_SameSurface.mono _ _ _ _ _|exact lo_|refine LeO.ite ?_ ?_|refine LeO.bind ?_ (fun _ => ?_)
theorem spec_l06Find.mono : ∀ a0 a1 a2 k, LeO (spec_l06Find.f k a0 a1 a2) (spec_l06Find.f (k + 1) a0 a1 a2) := by
  intro a0 a1 a2 k
  have ih0 := spec_l06Find.mono_l k
  unfold spec_l06Find.f
  repeat' first|exact ih0 _ _ _ _ _|exact spec_SameSurface.mono _ _ _ _ _|exact lo_|refine LeO.ite ?_ ?_|refine LeO.bind ?_ (fun _ => ?_)
set_option maxHeartbeats 8000000 in
set_option maxRecDepth 100000 in
theorem spec_l06Find.calls (k : Nat) (A0 : Option Addr) (c0 : Nat) (l0 : List (S25)) (A1_0 : Option Addr) (c1_0 : Nat) (l1_0 : List Int) (A1_1 : Option Addr) (c1_1 : Nat) (l1_1 : List Int) (r : Int) (w : World) (hr0 : Kd.C k25 w A0 l0.length l0) (hc0 : l0.length ≤ c0) (hr1_0 : Kd.C (Kd.int .i64) w A1_0 l1_0.length l1_0) (hc1_0 : l1_0.length ≤ c1_0) (hr1_1 : Kd.C (Kd.int .i64) w A1_1 l1_1.length l1_1) (hc1_1 : l1_1.length ≤ c1_1) (h : spec_l06Find.f k l0 l1_0 l1_1 = some r) :
    Calls Try.prog 81 #[.slice A0 l0.length c0, .agg #[.slice A1_0 l1_0.length c1_0, .slice A1_1 l1_1.length c1_1]] w fun e w' => e = .returned (.int .i64 r) ∧ Below w.heap.size w w' := by
  have hu25 := Try.underlying25
  have HR0 := Aside0.mk hr0
  have HC0 := Aside0.mk hc0
  clear hr0 hc0
  have HR1_0 := Aside0.mk hr1_0
  have HC1_0 := Aside0.mk hc1_0
  clear hr1_0 hc1_0
  have HR1_1 := Aside0.mk hr1_1
  have HC1_1 := Aside0.mk hc1_1
  clear hr1_1 hc1_1
  have HB := Aside0.mk (Below.refl w.heap.size w)
  have H := h
  unfold spec_l06Find.f at H
  clear h
  have H' := Aside0.mk H
  clear H
  go_enter Try.func81, Try.ntmps81
  go_wp2_with (first | ((with_reducible refine gate_dst (N := 3) rfl ?_); refine bx_ 3 #[.slice A1_0 l1_0.length c1_0, .slice A1_1 l1_1.length c1_1] 25 ?_; intro gb726 hg w3 hbox hb; have BK726 := Aside0.mk hbox; have GW726 := gw_ w hg; have GE726 := GW726; replace HB := b1_ hb; clear hb hbox hg))
  go_loopg [9] k (fun kq v9 w' => ∃ (x9_1 : Int), v9 = .int .i64 x9_1 ∧ Aside0 (spec_l06Find.l0 kq l0 (l0.length : Int) x9_1 l1_0 l1_1 = some r) ∧ Aside0 (kq ≤ k) ∧ Aside0 (w'.heap[gb726]? = some (.cells #[(.slice A1_0 l1_0.length c1_0), (.slice A1_1 l1_1.length c1_1)] 25 (0, 0))) ∧ Aside0 (Below w.heap.size w w'))
  case atStart => exact ⟨(0), qc_, H', ⟨Nat.le_refl _⟩, ⟨(kk_ BK726)⟩, ⟨hB_⟩⟩
  case round =>
    clear H'
    obtain ⟨x9_1, rfl, HA, HK1, BK726, HB⟩ := hrel
    cases gk with
    | zero => exact absurd HA.out (by simp [spec_l06Find.l0])
    | succ k1 =>
      have H := HA.out
      clear HA
      simp only [spec_l06Find.l0] at H
      by_cases c4 : x9_1 < (l0.length : Int)
      · rw [if_pos c4] at H
        have c4b0 := decide_eq_true c4
        clear c4
        have c5 := cp_ H
        replace H := ca_ H
        have c5b0 := decide_eq_true c5
        clear c5
        have c6 := cp_ H
        replace H := ca_ H
        have c6b0 := decide_eq_true c6
        clear c6
        obtain ⟨t729, A7, H⟩ := bi_ H
        by_cases c8 : t729 = true
        · subst c8
          rw [if_pos rfl] at H
          obtain rfl := Option.some.inj H
          have p727 : 0 ≤ (x9_1 : Int) := of_decide_eq_true qe_
          have q727 : x9_1 < (l0.length : Int) := of_decide_eq_true qe_
          obtain ⟨ad727, A727_0, c727_0, A727_1, c727_1, e727, hx727_0, hx727_1, hl727_0, hi727_0, hl727_1, hi727_1⟩ := at_T25 HR0.out x9_1 p727 q727
          cases e727
          replace hx727_0 := (HB.out.cell (World.block_lt_of_cell? w _ hx727_0)).trans hx727_0
          replace hx727_1 := (HB.out.cell (World.block_lt_of_cell? w _ hx727_1)).trans hx727_1
          have HR727_0 := Aside0.mk hi727_0
          have HC727_0 := Aside0.mk hl727_0
          clear hi727_0 hl727_0
          have HR727_1 := Aside0.mk hi727_1
          have HC727_1 := Aside0.mk hl727_1
          clear hi727_1 hl727_1
          replace p727 := eq_true p727
          replace q727 := eq_true q727
          go_wp2_with (first | ((with_reducible refine gate_dst (N := 6) rfl ?_); refine bx_ 6 #[.slice none 0 0, .slice none 0 0] 25 ?_; intro gb728 hg w9 hbox hb; have BK728 := Aside0.mk hbox; have GW728 := gw_ w hg; have GE728 := GW728; replace HB := b1_ hb; have NB726_728 := gN_ BK726 hg; have NB728_726 := gP_ BK726 hg; replace BK726 := bb_ BK726 hb; clear hb hbox hg; have hnb10 := NB728_726.out; have hnc10 := NB726_728.out; obtain ⟨hcz11_0, hcz11_1, hfz11_0, hfz11_1⟩ := c2_ BK728; obtain ⟨hcz12_0, hcz12_1, hfz12_0, hfz12_1⟩ := c2_ BK726) | ((with_reducible refine gate_callee (f := 118) rfl ?_); refine gL_ (some 16) Try.func118 #[.agg #[.slice A727_0 ((rd_T25 l0 x9_1).f0).length c727_0, .slice A727_1 ((rd_T25 l0 x9_1).f1).length c727_1], .agg #[.slice A1_0 l1_0.length c1_0, .slice A1_1 l1_1.length c1_1]] rfl qa_ ?_; (with_reducible refine (spec_SameSurface.calls k1 _ _ ((rd_T25 l0 x9_1).f0) _ _ ((rd_T25 l0 x9_1).f1) _ _ l1_0 _ _ l1_1 true _ (Kd.C_below HR727_0.out hB_) HC727_0.out (Kd.C_below HR727_1.out hB_) HC727_1.out (Kd.C_below HR1_0.out hB_) HC1_0.out (Kd.C_below HR1_1.out hB_) HC1_1.out A7.out).mono ?_); rintro e w13 ⟨rfl, hb⟩; refine ⟨_, rfl, ?_⟩; replace BK726 := Aside0.mk (blk_below (g := gb726) (o := .cells #[.slice A1_0 l1_0.length c1_0, .slice A1_1 l1_1.length c1_1] 25 (0, 0)) (by (with_reducible repeat (first | refine blk_drewN ?_ _ | refine blk_drew ?_ | refine blk_alloc ?_ _)); refine blk_far ?_ NB726_728.out _; (with_reducible repeat (first | refine blk_drewN ?_ _ | refine blk_drew ?_ | refine blk_alloc ?_ _)); refine blk_far ?_ NB726_728.out _; (with_reducible repeat (first | refine blk_drewN ?_ _ | refine blk_drew ?_ | refine blk_alloc ?_ _)); exact BK726.out) hb); replace BK728 := Aside0.mk (blk_below (g := gb728) (o := .cells #[.slice A727_0 ((rd_T25 l0 x9_1).f0).length c727_0, .slice A727_1 ((rd_T25 l0 x9_1).f1).length c727_1] 25 (0, 0)) qp_ hb); replace HB := b1_ hb; clear hb))
          go_ret
          exact ⟨qb_, hB_⟩
        · replace c8 := Bool.eq_false_iff.mpr c8
          subst c8
          have H1 : (spec_l06Find.l0 k1 l0 (l0.length : Int) (wrap64 (x9_1 + 1)) l1_0 l1_1) = some r := by rw [if_neg (show ¬ (false = true) by decide)] at H; exact H
          clear H
          have H := H1
          clear H1
          have H' := Aside0.mk H
          clear H
          have p727 : 0 ≤ (x9_1 : Int) := of_decide_eq_true qe_
          have q727 : x9_1 < (l0.length : Int) := of_decide_eq_true qe_
          obtain ⟨ad727, A727_0, c727_0, A727_1, c727_1, e727, hx727_0, hx727_1, hl727_0, hi727_0, hl727_1, hi727_1⟩ := at_T25 HR0.out x9_1 p727 q727
          cases e727
          replace hx727_0 := (HB.out.cell (World.block_lt_of_cell? w _ hx727_0)).trans hx727_0
          replace hx727_1 := (HB.out.cell (World.block_lt_of_cell? w _ hx727_1)).trans hx727_1
          have HR727_0 := Aside0.mk hi727_0
          have HC727_0 := Aside0.mk hl727_0
          clear hi727_0 hl727_0
          have HR727_1 := Aside0.mk hi727_1
          have HC727_1 := Aside0.mk hl727_1
          clear hi727_1 hl727_1
          replace p727 := eq_true p727
          replace q727 := eq_true q727
          go_wp2_with (first | ((with_reducible refine gate_dst (N := 6) rfl ?_); refine bx_ 6 #[.slice none 0 0, .slice none 0 0] 25 ?_; intro gb728 hg w14 hbox hb; have BK728 := Aside0.mk hbox; have GW728 := gw_ w hg; have GE728 := GW728; replace HB := b1_ hb; have NB726_728 := gN_ BK726 hg; have NB728_726 := gP_ BK726 hg; replace BK726 := bb_ BK726 hb; clear hb hbox hg; have hnb15 := NB728_726.out; have hnc15 := NB726_728.out; obtain ⟨hcz16_0, hcz16_1, hfz16_0, hfz16_1⟩ := c2_ BK728; obtain ⟨hcz17_0, hcz17_1, hfz17_0, hfz17_1⟩ := c2_ BK726) | ((with_reducible refine gate_callee (f := 118) rfl ?_); refine gL_ (some 16) Try.func118 #[.agg #[.slice A727_0 ((rd_T25 l0 x9_1).f0).length c727_0, .slice A727_1 ((rd_T25 l0 x9_1).f1).length c727_1], .agg #[.slice A1_0 l1_0.length c1_0, .slice A1_1 l1_1.length c1_1]] rfl qa_ ?_; (with_reducible refine (spec_SameSurface.calls k1 _ _ ((rd_T25 l0 x9_1).f0) _ _ ((rd_T25 l0 x9_1).f1) _ _ l1_0 _ _ l1_1 false _ (Kd.C_below HR727_0.out hB_) HC727_0.out (Kd.C_below HR727_1.out hB_) HC727_1.out (Kd.C_below HR1_0.out hB_) HC1_0.out (Kd.C_below HR1_1.out hB_) HC1_1.out A7.out).mono ?_); rintro e w18 ⟨rfl, hb⟩; refine ⟨_, rfl, ?_⟩; replace BK726 := Aside0.mk (blk_below (g := gb726) (o := .cells #[.slice A1_0 l1_0.length c1_0, .slice A1_1 l1_1.length c1_1] 25 (0, 0)) (by (with_reducible repeat (first | refine blk_drewN ?_ _ | refine blk_drew ?_ | refine blk_alloc ?_ _)); refine blk_far ?_ NB726_728.out _; (with_reducible repeat (first | refine blk_drewN ?_ _ | refine blk_drew ?_ | refine blk_alloc ?_ _)); refine blk_far ?_ NB726_728.out _; (with_reducible repeat (first | refine blk_drewN ?_ _ | refine blk_drew ?_ | refine blk_alloc ?_ _)); exact BK726.out) hb); replace BK728 := Aside0.mk (blk_below (g := gb728) (o := .cells #[.slice A727_0 ((rd_T25 l0 x9_1).f0).length c727_0, .slice A727_1 ((rd_T25 l0 x9_1).f1).length c727_1] 25 (0, 0)) qp_ hb); replace HB := b1_ hb; clear hb))
          go_roundg k1
          case measure => have := HK1.out; omega
          case rel => exact ⟨(wrap64 (x9_1 + 1)), qc_, H', ⟨by have := HK1.out; omega⟩, ⟨(kk_ BK726)⟩, ⟨hB_⟩⟩
      · rw [if_neg c4] at H
        have c4b0 := decide_eq_false c4
        clear c4
        obtain rfl := Option.some.inj H
        go_wp2
        go_ret
        exact ⟨qb_, hB_⟩
end Go.Proofs.Ytcggfjpnfodbaaa.A
end
section
namespace Go.Proofs.Ytcggfjpnfodbaaa.A
open Go.RowKit Go.Proofs.YtcggfjpnfodbaaaW.PrintWords Go.Proofs.YtcggfjpnfodbaaaW.PrintLast Go.Proofs.YtcggfjpnfodbaaaW.PrintMore
attribute [local go_sem] max2_int min2_int max_two min_two max_three min_three max_four min_four
set_option linter.unusedVariables false
set_option linter.unusedSimpArgs false
def spec_l02Rename.l0 : Nat → List Int → List Int → List Int → Int → Int → Option (List Int)
  | 0, _, _, _, _, _ => none
  | k + 1, x1, x5, x11, x12, x13 => if x13 < x12 then (if 0 ≤ x13 then (if x13 < (x11.length : Int) then (if x13 < (x1.length : Int) then (if 0 ≤ (rd x11 x13) then (if (rd x11 x13) < (x1.length : Int) then (if 0 ≤ (rd x1 x13) then (if (rd x1 x13) < (x5.length : Int) then (spec_l02Rename.l0 k x1 (x5.set ((rd x1 x13) : Int).toNat (rd x1 (rd x11 x13))) x11 x12 (wrap64 (x13 + 1))) else (none)) else (none)) else (none)) else (none)) else (none)) else (none)) else (none)) else (some x5)
def spec_l02Rename.f (k : Nat) (l0 : List Int) (l1 : List Int) : Option (List Int) := if 0 ≤ (l0.length : Int) then (if ((l0.length : Int) : Int).toNat ≤ 35184372088832 then (spec_l02Rename.l0 k l1 (List.replicate ((l0.length : Int) : Int).toNat 0) l0 (l0.length : Int) 0) else (none)) else (none)
theorem spec_l02Rename.mono_l : ∀ k, (∀ y0 y1 y2 y3 y4, LeO (spec_l02Rename.l0 k y0 y1 y2 y3 y4) (spec_l02Rename.l0 (k + 1) y0 y1 y2 y3 y4))
  | 0 => fun _ _ _ _ _ r h => by simp [spec_l02Rename.l0] at h
  | k + 1 => by
    have ih0 := spec_l02Rename.mono_l k
    · intro y0 y1 y2 y3 y4
      unfold spec_l02Rename.l0
      repeat' first|exact ih0 _ _ _ _ _|exact lo_|refine LeO.ite ?_ ?_|refine LeO.bind ?_ (fun _ => ?_)
theorem spec_l02Rename.mono : ∀ a0 a1 k, LeO (spec_l02Rename.f k a0 a1) (spec_l02Rename.f (k + 1) a0 a1) := by
  intro a0 a1 k
  have ih0 := spec_l02Rename.mono_l k
  unfold spec_l02Rename.f
  repeat' first|exact ih0 _ _ _ _ _|exact lo_|refine LeO.ite ?_ ?_|refine LeO.bind ?_ (fun _ => ?_)
def spec_l02Rename.T5 : Bool × List (List Nat × List Nat) := (true, [([], []), ([], []), ([], []), ([1, 2], [1, 2]), ([3], [3]), ([], []), ([], []), ([5, 6], [5, 6]), ([7], [7]), ([0, 4, 0, 1, 2, 3, 4, 5, 6, 7, 8], [0, 4]), ([9, 8, 0, 1, 2, 3, 4, 5, 6, 7, 8], [8, 9])])
def spec_l02Rename.B5 : List Nat := [0, 0, 0, 6, 14, 0, 0, 96, 224, 511, 1023]
theorem spec_l02Rename.tab5 : rtab .any (opsOf Try.f149 5) = spec_l02Rename.T5 := by kernel_rfl
theorem spec_l02Rename.bits5 : waitsOk spec_l02Rename.T5.2 spec_l02Rename.B5 = true := by kernel_rfl
set_option maxHeartbeats 8000000 in
set_option maxRecDepth 100000 in
theorem spec_l02Rename.calls (k : Nat) (A0 : Option Addr) (c0 : Nat) (l0 : List Int) (A1 : Option Addr) (c1 : Nat) (l1 : List Int) (r : List Int) (w : World) (hr0 : Kd.C (Kd.int .i64) w A0 l0.length l0) (hc0 : l0.length ≤ c0) (hr1 : Kd.C (Kd.int .i64) w A1 l1.length l1) (hc1 : l1.length ≤ c1) (h : spec_l02Rename.f k l0 l1 = some r) :
    Calls Try.prog 149 #[.slice A0 l0.length c0, .slice A1 l1.length c1] w fun e w' => ∃ v0_ : Value, e = .returned (v0_) ∧ Kd.R (Kd.int .i64) 3 w' w.heap.size (fun _ => True) v0_ r ∧ Below w.heap.size w w' := by
  have HR0 := Aside0.mk hr0
  have HC0 := Aside0.mk hc0
  clear hr0 hc0
  have HR1 := Aside0.mk hr1
  have HC1 := Aside0.mk hc1
  clear hr1 hc1
  have HB := Aside0.mk (Below.refl w.heap.size w)
  have H := h
  unfold spec_l02Rename.f at H
  clear h
  have c3 := cp_ H
  replace H := ca_ H
  have c3b0 := eq_true c3
  have c3b1 := decide_eq_true c3
  clear c3
  have c4 := cp_ H
  replace H := ca_ H
  have c4b0 := eq_true c4
  have c4b1 := decide_eq_true c4
  clear c4
  obtain ⟨y730, hy730⟩ : ∃ y_ : List Int, y_ = (List.replicate ((l0.length : Int) : Int).toNat 0) := ⟨_, rfl⟩
  replace H : (spec_l02Rename.l0 k l1 y730 l0 (l0.length : Int) 0) = some r := by first | (rw [hy730]; exact H) | exact H
  have Ny730 := Aside0.mk hy730
  clear hy730
  have H' := Aside0.mk H
  clear H
  go_enter Try.func149, Try.ntmps149
  go_wp2_with (first | ((with_reducible refine gate_dst (N := 10) rfl ?_); refine Kd.R_make (Kd.int .i64) _ 3 rfl (N := 10) rfl 23 _ _ rfl (l0.length : Int) rfl rfl Try.underlying23 (.int .i64 0) 8 info3 rfl (by decide) (by omega) 0 (ok := fun _ => True) (okp := fun _ => True) rfl (fun _ hk => hk) trivial (of_decide_eq_true qe_) (Nat.le_trans (Nat.mul_le_mul_right _ (of_decide_eq_true qe_ : (l0.length : Int).toNat ≤ 35184372088832)) (by omega)) (Below.refl _ _) (Nat.le_refl _) ?_; intro v731 w5 ho6 hb hg_ hnew_; clear hg_ hnew_; (first | rw [← Ny730.out] at ho6 | (simp only [Int.reduceToNat] at ho6; rw [← Ny730.out] at ho6)); have HO732 := rl_ w ho6; replace HB := b1_ hb; clear hb ho6))
  go_loopg [13] k (fun kq v13 w' => ∃ (x5_1 : List Int) (x13_1 : Int), v13 = .int .i64 x13_1 ∧ Aside0 (spec_l02Rename.l0 kq l1 x5_1 l0 (l0.length : Int) x13_1 = some r) ∧ Aside0 (kq ≤ k) ∧ Aside0 (Kd.R (Kd.int .i64) 3 w' w.heap.size (fun _ => True) v731 x5_1) ∧ Aside0 (Below w.heap.size w w'))
  case atStart => exact ⟨(y730), (0), qc_, H', ⟨Nat.le_refl _⟩, ⟨(rr_ HO732)⟩, ⟨hB_⟩⟩
  case round =>
    clear H'
    obtain ⟨x5_1, x13_1, rfl, HA, HK1, HO_5, HB⟩ := hrel
    cases gk with
    | zero => exact absurd HA.out (by simp [spec_l02Rename.l0])
    | succ k1 =>
      have H := HA.out
      clear HA
      simp only [spec_l02Rename.l0] at H
      by_cases c7 : x13_1 < (l0.length : Int)
      · rw [if_pos c7] at H
        have c7b0 := decide_eq_true c7
        clear c7
        have c8 := cp_ H
        replace H := ca_ H
        have c8b0 := decide_eq_true c8
        clear c8
        have c9 := cp_ H
        replace H := ca_ H
        have c9b0 := decide_eq_true c9
        clear c9
        have c10 := cp_ H
        replace H := ca_ H
        have c10b0 := decide_eq_true c10
        clear c10
        have c11 := cp_ H
        replace H := ca_ H
        have c11b0 := decide_eq_true c11
        clear c11
        have c12 := cp_ H
        replace H := ca_ H
        have c12b0 := decide_eq_true c12
        clear c12
        have c13 := cp_ H
        replace H := ca_ H
        have c13b0 := decide_eq_true c13
        clear c13
        have c14 := cp_ H
        replace H := ca_ H
        have c14b0 := decide_eq_true c14
        clear c14
        obtain ⟨y736, hy736⟩ : ∃ y_ : List Int, y_ = (x5_1.set ((rd l1 x13_1) : Int).toNat (rd l1 (rd l0 x13_1))) := ⟨_, rfl⟩
        replace H : (spec_l02Rename.l0 k1 l1 y736 l0 (l0.length : Int) (wrap64 (x13_1 + 1))) = some r := by first | (rw [hy736]; exact H) | exact H
        have Ny736 := Aside0.mk hy736
        clear hy736
        have H' := Aside0.mk H
        clear H
        have p733 : 0 ≤ (x13_1 : Int) := of_decide_eq_true qe_
        have q733 : x13_1 < (l0.length : Int) := of_decide_eq_true qe_
        obtain ⟨ad733, e733, hx733_0⟩ := Kd.at_int HR0.out x13_1 p733 q733
        cases e733
        replace hx733_0 := (HB.out.cell (World.block_lt_of_cell? w _ hx733_0)).trans hx733_0
        replace p733 := eq_true p733
        replace q733 := eq_true q733
        try go_wp2
        replace HO_5 := Aside0.mk (Kd.R_drew HO_5.out)
        replace HB := Aside0.mk (below_drew1 HB.out)
        have p734 : 0 ≤ (x13_1 : Int) := of_decide_eq_true qe_
        have q734 : x13_1 < (l1.length : Int) := of_decide_eq_true qe_
        obtain ⟨ad734, e734, hx734_0⟩ := Kd.at_int HR1.out x13_1 p734 q734
        have hw734_0 := hx734_0
        cases e734
        replace hx734_0 := (HB.out.cell (World.block_lt_of_cell? w _ hx734_0)).trans hx734_0
        replace p734 := eq_true p734
        replace q734 := eq_true q734
        have p735 : 0 ≤ ((rd l0 x13_1) : Int) := of_decide_eq_true qe_
        have q735 : (rd l0 x13_1) < (l1.length : Int) := of_decide_eq_true qe_
        obtain ⟨ad735, e735, hx735_0⟩ := Kd.at_int HR1.out (rd l0 x13_1) p735 q735
        have hw735_0 := hx735_0
        obtain rfl : ad734 = ad735 := (by injection e735)
        replace hx735_0 := (HB.out.cell (World.block_lt_of_cell? w _ hx735_0)).trans hx735_0
        replace p735 := eq_true p735
        replace q735 := eq_true q735
        have p15 : 0 ≤ ((rd l1 x13_1) : Int) := of_decide_eq_true qe_
        have q15 : ((rd l1 x13_1) : Int) < ((x5_1.length : Int) : Int) := of_decide_eq_true qe_
        obtain ⟨go15, co15, eo15, gb15, gl15, cl15, HG15⟩ := Kd.R_form HO_5.out (by omega)
        (first | cases eo15 | (injection eo15 with ea_ en_ ec_; (first | subst ea_ | (injection ea_ with ea_; subst ea_)); subst ec_; clear en_))
        have GB15 := Aside0.mk gb15
        have GG15 := Aside0.mk HG15
        clear gb15 gl15 HG15
        obtain ⟨hx15_0, hf15_0⟩ := Kd.R_celln 0 HO_5.out ((rd l1 x13_1) : Int) p15 q15
        replace p15 := eq_true p15
        replace q15 := eq_true q15
        have HP17 := Kd.R_putn HO_5.out ((rd l1 x13_1) : Int) (rd l1 (rd l0 x13_1))
        rw [← Ny736.out] at HP17
        have HQ17 := Aside0.mk HP17
        clear HP17
        refine start_ (n := 11) (S := fun w' => w'.cell? (ad734.add (x13_1).toNat) = some (.int .i64 (rd l1 x13_1)) ∧ w'.cell? (ad734.add ((rd l0 x13_1)).toNat) = some (.int .i64 (rd l1 (rd l0 x13_1)))) (ds := [10]) (bl_ 11 0) (by kernel_rfl) rfl (by kernel_rfl) ⟨((HB.out.cell (World.block_lt_of_cell? w _ hw734_0)).trans hw734_0), ((HB.out.cell (World.block_lt_of_cell? w _ hw735_0)).trans hw735_0)⟩ (fun hHeld => ?_); refine with_tabW spec_l02Rename.tab5 spec_l02Rename.bits5 (fun HT_ HW_ => ?_)
        generalize wr.drew = w16 at HO_5 HB GG15 HQ17 hf15_0 hx15_0 hx734_0 hx735_0 hHeld ⊢
        refine pu_ 0 (some 18) (bl_ 11 1) HT_ ?_
        refine pu_ 1 (some 19) (bl_ 11 3) HT_ ?_
        refine pu_ 2 (some 20) (bl_ 11 7) HT_ ?_
        refine pu_ 3 (some 21) (bl_ 11 15) HT_ ?_
        refine pu_ 5 (some 23) (bl_ 11 47) HT_ ?_
        refine pu_ 6 (some 24) (bl_ 11 111) HT_ ?_
        refine pu_ 7 (some 25) (bl_ 11 239) HT_ ?_
        refine ta_ 4 (some 22) (bl_ 11 255) HT_ HW_ hHeld ?_
        refine ta_ 8 (some 26) (bl_ 11 511) HT_ HW_ hHeld ?_
        refine pu_ 9 (some 27) (bl_ 11 1023) HT_ ?_
        refine last_ (i := 10) (N := none) (bl_ 11 2047) rfl rfl (one_of HT_.out (by kernel_rfl)) (by decide) (fun K hK => ?_)
        refine skip_ (w1 := ?_) (by rfl) rfl ?_ ?_
        rotate_left
        · go_simp
          rfl
        refine hK.out _ _ ?_
        clear hK K
        refine done_ (done_of HT_.out (by kernel_rfl)) ?_
        try go_wp2
        go_roundg k1
        case measure => have := HK1.out; omega
        case rel => exact ⟨(y736), (wrap64 (x13_1 + 1)), qc_, H', ⟨by have := HK1.out; omega⟩, ⟨(rr_ HQ17)⟩, ⟨by repeat (first | (with_reducible first | exact HB.out | apply below_alloc | apply pw_below_drewN | apply below_drew1 | refine below_set ?_ GB15.out) | exact HB.out)⟩⟩
      · rw [if_neg c7] at H
        have c7b0 := decide_eq_false c7
        clear c7
        obtain rfl := Option.some.inj H
        go_wp2
        go_ret
        exact ⟨_, qb_, (rr_ HO_5), hB_⟩
end Go.Proofs.Ytcggfjpnfodbaaa.A
end
section
namespace Go.Proofs.Ytcggfjpnfodbaaa.A
open Go.RowKit Go.Proofs.YtcggfjpnfodbaaaW.PrintWords Go.Proofs.YtcggfjpnfodbaaaW.PrintLast Go.Proofs.YtcggfjpnfodbaaaW.PrintMore
attribute [local go_sem] max2_int min2_int max_two min_two max_three min_three max_four min_four
set_option linter.unusedVariables false
set_option linter.unusedSimpArgs false
def spec_l03Rename.f (k : Nat) (l0_0 : List Int) (l0_1 : List Int) (l1 : List Int) : Option (List Int × List Int) := (spec_l02Rename.f k l0_0 l1).bind fun t739 => ((spec_l02Rename.f k l0_1 l1).bind fun t742 => (some (t739, t742)))
theorem spec_l03Rename.mono : ∀ a0 a1 a2 k, LeO (spec_l03Rename.f k a0 a1 a2) (spec_l03Rename.f (k + 1) a0 a1 a2) := by
  intro a0 a1 a2 k
  unfold spec_l03Rename.f
  repeat' first|exact spec_l02Rename.mono _ _ _|exact lo_|refine LeO.ite ?_ ?_|refine LeO.bind ?_ (fun _ => ?_)
def spec_l03Rename.T1 : Bool × List (List Nat × List Nat) := (true, [([], []), ([0], [0]), ([], []), ([1, 2], [1, 2]), ([], []), ([4], [4]), ([], []), ([5, 6, 3], [5, 6]), ([3, 7], [3, 7]), ([8, 7, 0, 1, 2, 3, 4, 5, 6, 7, 8], [8])])
def spec_l03Rename.B1 : List Nat := [0, 1, 0, 7, 0, 16, 0, 127, 255, 511]
theorem spec_l03Rename.tab1 : rtab .any (opsOf Try.f119 1) = spec_l03Rename.T1 := by kernel_rfl
theorem spec_l03Rename.bits1 : waitsOk spec_l03Rename.T1.2 spec_l03Rename.B1 = true := by kernel_rfl
set_option maxHeartbeats 8000000 in
set_option maxRecDepth 100000 in
theorem spec_l03Rename.calls (k : Nat) (A0_0 : Option Addr) (c0_0 : Nat) (l0_0 : List Int) (A0_1 : Option Addr) (c0_1 : Nat) (l0_1 : List Int) (A1 : Option Addr) (c1 : Nat) (l1 : List Int) (r1 : List Int) (r2 : List Int) (w : World) (hr0_0 : Kd.C (Kd.int .i64) w A0_0 l0_0.length l0_0) (hc0_0 : l0_0.length ≤ c0_0) (hr0_1 : Kd.C (Kd.int .i64) w A0_1 l0_1.length l0_1) (hc0_1 : l0_1.length ≤ c0_1) (hr1 : Kd.C (Kd.int .i64) w A1 l1.length l1) (hc1 : l1.length ≤ c1) (h : spec_l03Rename.f k l0_0 l0_1 l1 = some (r1, r2)) :
    Calls Try.prog 119 #[.agg #[.slice A0_0 l0_0.length c0_0, .slice A0_1 l0_1.length c0_1], .slice A1 l1.length c1] w fun e w' => ∃ v0_ v1_ : Value, e = .returned (.agg #[v0_, v1_]) ∧ Kd.R (Kd.int .i64) 3 w' w.heap.size (fun k_ => some k_ ≠ (v1_ : Value).ownBlock) v0_ r1 ∧ Kd.R (Kd.int .i64) 3 w' w.heap.size (fun k_ => some k_ ≠ (v0_ : Value).ownBlock) v1_ r2 ∧ Below w.heap.size w w' := by
  have hu25 := Try.underlying25
  have HR0_0 := Aside0.mk hr0_0
  have HC0_0 := Aside0.mk hc0_0
  clear hr0_0 hc0_0
  have HR0_1 := Aside0.mk hr0_1
  have HC0_1 := Aside0.mk hc0_1
  clear hr0_1 hc0_1
  have HR1 := Aside0.mk hr1
  have HC1 := Aside0.mk hc1
  clear hr1 hc1
  have HB := Aside0.mk (Below.refl w.heap.size w)
  have H := h
  unfold spec_l03Rename.f at H
  clear h
  obtain ⟨t739, A3, H⟩ := bi_ H
  obtain ⟨t742, A4, H⟩ := bi_ H
  simp only [Option.some.injEq, Prod.mk.injEq] at H
  obtain ⟨rfl, rfl⟩ := H
  go_enter Try.func119, Try.ntmps119
  try go_wp2_with (first | ((with_reducible refine gate_dst (N := 2) rfl ?_); refine bx_ 2 #[.slice A0_0 l0_0.length c0_0, .slice A0_1 l0_1.length c0_1] 25 ?_; intro gb737 hg w5 hbox hb; have BK737 := Aside0.mk hbox; have GW737 := gw_ w hg; have GE737 := GW737; replace HB := b1_ hb; clear hb hbox hg) | ((with_reducible refine gate_dst (N := 4) rfl ?_); refine bx_ 4 #[.slice none 0 0, .slice none 0 0] 25 ?_; intro gb738 hg w6 hbox hb; have BK738 := Aside0.mk hbox; have GW738 := gw_ w hg; have GE738 := GW738; replace HB := b1_ hb; have NB737_738 := gN_ BK737 hg; have NB738_737 := gP_ BK737 hg; replace BK737 := bb_ BK737 hb; clear hb hbox hg))
  replace BK737 := Aside0.mk (blk_drew BK737.out)
  replace BK738 := Aside0.mk (blk_drew BK738.out)
  replace HB := Aside0.mk (below_drew1 HB.out)
  refine start_ (n := 10) (S := fun w' => w'.cell? ⟨gb737, 0, none⟩ = some (.slice A0_0 l0_0.length c0_0) ∧ w'.cell? ⟨gb737, 1, none⟩ = some (.slice A0_1 l0_1.length c0_1)) (ds := []) (bl_ 10 0) (by kernel_rfl) rfl (by kernel_rfl) ⟨cz0_ BK737, cz1_ BK737⟩ (fun hHeld => ?_); refine with_tabW spec_l03Rename.tab1 spec_l03Rename.bits1 (fun HT_ HW_ => ?_)
  generalize w6.drew = w7 at BK737 BK738 HB hHeld ⊢
  refine pu_ 0 (some 5) (bl_ 10 1) HT_ ?_
  refine pu_ 2 (some 7) (bl_ 10 5) HT_ ?_
  refine pu_ 4 (some 9) (bl_ 10 21) HT_ ?_
  refine pu_ 6 (some 11) (bl_ 10 85) HT_ ?_
  refine ta_ 1 (some 6) (bl_ 10 87) HT_ HW_ hHeld ?_
  refine ta_ 5 (some 10) (bl_ 10 119) HT_ HW_ hHeld ?_
  refine on_ 3 (some 8) (bl_ 10 127) HT_ (fun K hK => ?_)
  refine gO_ Try.func149 #[.slice A0_0 l0_0.length c0_0, .slice A1 l1.length c1] (by rfl) rfl rfl qa_ ?_
  with_reducible refine (spec_l02Rename.calls k _ _ l0_0 _ _ l1 t739 _ (cb_ HR0_0) HC0_0.out (cb_ HR1) HC1.out A3.out).mono ?_
  rintro e w8 ⟨v740, rfl, ho0, hb⟩
  refine ⟨_, rfl, ?_⟩
  have HO741 := rl_ w ho0
  replace BK737 := bb_ BK737 hb
  replace BK738 := bb_ BK738 hb
  replace HB := b1_ hb
  clear hb ho0
  refine hK.out _ _ ⟨cz0_ BK737, cz1_ BK737⟩ (fun hHeld => ?_)
  clear hK K
  refine no_ (some 8) ?_
  refine on_ 7 (some 12) (bl_ 10 255) HT_ (fun K hK => ?_)
  refine gO_ Try.func149 #[.slice A0_1 l0_1.length c0_1, .slice A1 l1.length c1] (by rfl) rfl rfl qa_ ?_
  with_reducible refine (spec_l02Rename.calls k _ _ l0_1 _ _ l1 t742 _ (cb_ HR0_1) HC0_1.out (cb_ HR1) HC1.out A4.out).mono ?_
  rintro e w9 ⟨v743, rfl, ho0, hb⟩
  refine ⟨_, rfl, ?_⟩
  have HO744 := Aside0.mk (Kd.R_lower (Kd.R_new' ho0 (Kd.R_lt (rr_ HO741))) (below_size hB_))
  replace HO741 := Aside0.mk (Kd.R_elder' (rr_ HO741) (Kd.R_base ho0) hb)
  replace BK737 := bb_ BK737 hb
  replace BK738 := bb_ BK738 hb
  replace HB := b1_ hb
  clear hb ho0
  obtain ⟨Ao10, co10, eo10⟩ := Kd.R_slice HO744.out
  (first | subst eo10 | (injection eo10 with f1_ f2_ f3_; have f4_ := f1_.symm; have f5_ := f3_.symm; clear f1_ f2_ f3_; subst f4_; subst f5_))
  obtain ⟨Ao11, co11, eo11⟩ := Kd.R_slice HO741.out
  (first | subst eo11 | (injection eo11 with f1_ f2_ f3_; have f4_ := f1_.symm; have f5_ := f3_.symm; clear f1_ f2_ f3_; subst f4_; subst f5_))
  refine hK.out _ _ ⟨cz0_ BK737, cz1_ BK737⟩ (fun hHeld => ?_)
  clear hK K
  refine no_ (some 12) ?_
  refine pu_ 8 (some 13) (bl_ 10 511) HT_ ?_
  refine on_ 9 (none) (bl_ 10 1023) HT_ (fun K hK => ?_)
  have hs12 : w9.cell? ⟨gb738, 0, none⟩ = some (.slice none 0 0) := cz0_ BK738
  have hfs12 := blk_frozen BK738.out 0
  have hns12_0 := NB737_738.out
  have hms12_0 := NB738_737.out
  have hs13 : w9.cell? ⟨gb738, 1, none⟩ = some (.slice none 0 0) := cz1_ BK738
  have hfs13 := blk_frozen BK738.out 1
  have hns13_0 := NB737_738.out
  have hms13_0 := NB738_737.out
  refine skip_ (w1 := ?_) (by rfl) rfl ?_ ?_
  rotate_left
  · go_simp
    rfl
  refine hK.out _ _ ⟨((cell_far (p := ⟨gb738, _, none⟩) NB737_738.out _).trans (((cell_far (p := ⟨gb738, _, none⟩) NB737_738.out _).trans (hHeld.1)))), ((cell_far (p := ⟨gb738, _, none⟩) NB737_738.out _).trans (((cell_far (p := ⟨gb738, _, none⟩) NB737_738.out _).trans (hHeld.2))))⟩ (fun hHeld => ?_)
  clear hK K
  refine done_ (done_of HT_.out (by kernel_rfl)) ?_
  try go_wp2
  refine bodyPost_ret (results_cell_row rfl _ _ gb738 25 #[.slice Ao11 t739.length co11, .slice Ao10 t742.length co10] (0, 0) _ rfl qp_ Try.underlying25 rfl (by kernel_rfl)) rfl ?_
  exact ⟨_, _, qb_, (rw_ (Kd.R_mono (fa_ HO741 BK738) (fun _ hk => hk.2))), (rw_ (Kd.R_mono (fa_ HO744 BK738) (fun _ hk => hk.2))), hB_⟩
end Go.Proofs.Ytcggfjpnfodbaaa.A
end
section
namespace Go.Proofs.Ytcggfjpnfodbaaa.A
open Go.RowKit Go.Proofs.YtcggfjpnfodbaaaW.PrintWords Go.Proofs.YtcggfjpnfodbaaaW.PrintLast Go.Proofs.YtcggfjpnfodbaaaW.PrintMore
attribute [local go_sem] max2_int min2_int max_two min_two max_three min_three max_four min_four
set_option linter.unusedVariables false
set_option linter.unusedSimpArgs false
def spec_l02Inverse.l0 : Nat → List Int → List Int → Int → Int → Option (List Int)
  | 0, _, _, _, _ => none
  | k + 1, x3, x9, x10, x11 => if x11 < x10 then (if 0 ≤ x11 then (if x11 < (x9.length : Int) then (if 0 ≤ (rd x9 x11) then (if (rd x9 x11) < (x3.length : Int) then (spec_l02Inverse.l0 k (x3.set ((rd x9 x11) : Int).toNat x11) x9 x10 (wrap64 (x11 + 1))) else (none)) else (none)) else (none)) else (none)) else (some x3)
def spec_l02Inverse.f (k : Nat) (l0 : List Int) : Option (List Int) := if 0 ≤ (l0.length : Int) then (if ((l0.length : Int) : Int).toNat ≤ 35184372088832 then (spec_l02Inverse.l0 k (List.replicate ((l0.length : Int) : Int).toNat 0) l0 (l0.length : Int) 0) else (none)) else (none)
theorem spec_l02Inverse.mono_l : ∀ k, (∀ y0 y1 y2 y3, LeO (spec_l02Inverse.l0 k y0 y1 y2 y3) (spec_l02Inverse.l0 (k + 1) y0 y1 y2 y3))
  | 0 => fun _ _ _ _ r h => by simp [spec_l02Inverse.l0] at h
  | k + 1 => by
    have ih0 := spec_l02Inverse.mono_l k
    · intro y0 y1 y2 y3
      unfold spec_l02Inverse.l0
      repeat' first|exact ih0 _ _ _ _|exact lo_|refine LeO.ite ?_ ?_|refine LeO.bind ?_ (fun _ => ?_)
theorem spec_l02Inverse.mono : ∀ a0 k, LeO (spec_l02Inverse.f k a0) (spec_l02Inverse.f (k + 1) a0) := by
  intro a0 k
  have ih0 := spec_l02Inverse.mono_l k
  unfold spec_l02Inverse.f
  repeat' first|exact ih0 _ _ _ _|exact lo_|refine LeO.ite ?_ ?_|refine LeO.bind ?_ (fun _ => ?_)
set_option maxHeartbeats 8000000 in
set_option maxRecDepth 100000 in
theorem spec_l02Inverse.calls (k : Nat) (A0 : Option Addr) (c0 : Nat) (l0 : List Int) (r : List Int) (w : World) (hr0 : Kd.C (Kd.int .i64) w A0 l0.length l0) (hc0 : l0.length ≤ c0) (h : spec_l02Inverse.f k l0 = some r) :
    Calls Try.prog 150 #[.slice A0 l0.length c0] w fun e w' => ∃ v0_ : Value, e = .returned (v0_) ∧ Kd.R (Kd.int .i64) 3 w' w.heap.size (fun _ => True) v0_ r ∧ Below w.heap.size w w' := by
  have HR0 := Aside0.mk hr0
  have HC0 := Aside0.mk hc0
  clear hr0 hc0
  have HB := Aside0.mk (Below.refl w.heap.size w)
  have H := h
  unfold spec_l02Inverse.f at H
  clear h
  have c2 := cp_ H
  replace H := ca_ H
  have c2b0 := eq_true c2
  have c2b1 := decide_eq_true c2
  clear c2
  have c3 := cp_ H
  replace H := ca_ H
  have c3b0 := eq_true c3
  have c3b1 := decide_eq_true c3
  clear c3
  obtain ⟨y745, hy745⟩ : ∃ y_ : List Int, y_ = (List.replicate ((l0.length : Int) : Int).toNat 0) := ⟨_, rfl⟩
  replace H : (spec_l02Inverse.l0 k y745 l0 (l0.length : Int) 0) = some r := by first | (rw [hy745]; exact H) | exact H
  have Ny745 := Aside0.mk hy745
  clear hy745
  have H' := Aside0.mk H
  clear H
  go_enter Try.func150, Try.ntmps150
  go_wp2_with (first | ((with_reducible refine gate_dst (N := 8) rfl ?_); refine Kd.R_make (Kd.int .i64) _ 3 rfl (N := 8) rfl 23 _ _ rfl (l0.length : Int) rfl rfl Try.underlying23 (.int .i64 0) 8 info3 rfl (by decide) (by omega) 0 (ok := fun _ => True) (okp := fun _ => True) rfl (fun _ hk => hk) trivial (of_decide_eq_true qe_) (Nat.le_trans (Nat.mul_le_mul_right _ (of_decide_eq_true qe_ : (l0.length : Int).toNat ≤ 35184372088832)) (by omega)) (Below.refl _ _) (Nat.le_refl _) ?_; intro v746 w4 ho5 hb hg_ hnew_; clear hg_ hnew_; (first | rw [← Ny745.out] at ho5 | (simp only [Int.reduceToNat] at ho5; rw [← Ny745.out] at ho5)); have HO747 := rl_ w ho5; replace HB := b1_ hb; clear hb ho5))
  go_loopg [11] k (fun kq v11 w' => ∃ (x3_1 : List Int) (x11_1 : Int), v11 = .int .i64 x11_1 ∧ Aside0 (spec_l02Inverse.l0 kq x3_1 l0 (l0.length : Int) x11_1 = some r) ∧ Aside0 (kq ≤ k) ∧ Aside0 (Kd.R (Kd.int .i64) 3 w' w.heap.size (fun _ => True) v746 x3_1) ∧ Aside0 (Below w.heap.size w w'))
  case atStart => exact ⟨(y745), (0), qc_, H', ⟨Nat.le_refl _⟩, ⟨(rr_ HO747)⟩, ⟨hB_⟩⟩
  case round =>
    clear H'
    obtain ⟨x3_1, x11_1, rfl, HA, HK1, HO_3, HB⟩ := hrel
    cases gk with
    | zero => exact absurd HA.out (by simp [spec_l02Inverse.l0])
    | succ k1 =>
      have H := HA.out
      clear HA
      simp only [spec_l02Inverse.l0] at H
      by_cases c6 : x11_1 < (l0.length : Int)
      · rw [if_pos c6] at H
        have c6b0 := decide_eq_true c6
        clear c6
        have c7 := cp_ H
        replace H := ca_ H
        have c7b0 := decide_eq_true c7
        clear c7
        have c8 := cp_ H
        replace H := ca_ H
        have c8b0 := decide_eq_true c8
        clear c8
        have c9 := cp_ H
        replace H := ca_ H
        have c9b0 := decide_eq_true c9
        clear c9
        have c10 := cp_ H
        replace H := ca_ H
        have c10b0 := decide_eq_true c10
        clear c10
        obtain ⟨y749, hy749⟩ : ∃ y_ : List Int, y_ = (x3_1.set ((rd l0 x11_1) : Int).toNat x11_1) := ⟨_, rfl⟩
        replace H : (spec_l02Inverse.l0 k1 y749 l0 (l0.length : Int) (wrap64 (x11_1 + 1))) = some r := by first | (rw [hy749]; exact H) | exact H
        have Ny749 := Aside0.mk hy749
        clear hy749
        have H' := Aside0.mk H
        clear H
        have p748 : 0 ≤ (x11_1 : Int) := of_decide_eq_true qe_
        have q748 : x11_1 < (l0.length : Int) := of_decide_eq_true qe_
        obtain ⟨ad748, e748, hx748_0⟩ := Kd.at_int HR0.out x11_1 p748 q748
        cases e748
        replace hx748_0 := (HB.out.cell (World.block_lt_of_cell? w _ hx748_0)).trans hx748_0
        replace p748 := eq_true p748
        replace q748 := eq_true q748
        have p11 : 0 ≤ ((rd l0 x11_1) : Int) := of_decide_eq_true qe_
        have q11 : ((rd l0 x11_1) : Int) < ((x3_1.length : Int) : Int) := of_decide_eq_true qe_
        obtain ⟨go11, co11, eo11, gb11, gl11, cl11, HG11⟩ := Kd.R_form HO_3.out (by omega)
        (first | cases eo11 | (injection eo11 with ea_ en_ ec_; (first | subst ea_ | (injection ea_ with ea_; subst ea_)); subst ec_; clear en_))
        have GB11 := Aside0.mk gb11
        have GG11 := Aside0.mk HG11
        clear gb11 gl11 HG11
        obtain ⟨hx11_0, hf11_0⟩ := Kd.R_celln 0 HO_3.out ((rd l0 x11_1) : Int) p11 q11
        replace p11 := eq_true p11
        replace q11 := eq_true q11
        have HP12 := Kd.R_putg HO_3.out ((rd l0 x11_1) : Int) x11_1
        go_wp2_with (first | ((with_reducible refine gate_store (t := 3) (p := 19) rfl ?_); refine store_event (t := 3) (p := 19) (v := ?vo_w13) (w1 := (wr.setCell ⟨go11, ((rd l0 x11_1) : Int).toNat, none⟩ (.int .i64 x11_1))) ?hg ?ho ?hn ?hr ?_; (case ho => rfl); (case hg => rfl); (case hn => rfl); (case hr => first | (go_simp; done) | (go_simp; rfl)); intro w13 hw; have hg : wr.grownBy w13 (some go11) := (by rw [hw]; exact HP12.2); have hp_ : Kd.R (Kd.int .i64) 3 w13 w.heap.size (fun _ => True) (.slice (some ⟨go11, 0, none⟩) x3_1.length co11) y749 := (by rw [hw, Ny749.out]; exact HP12.1); clear HP12; replace HO_3 := Aside0.mk (hp_); replace HB := Aside0.mk ((by rw [hw]; exact below_set (HB.out) GB11.out : Below w.heap.size w w13)); clear hg hw hp_))
        go_roundg k1
        case measure => have := HK1.out; omega
        case rel => exact ⟨(y749), (wrap64 (x11_1 + 1)), qc_, H', ⟨by have := HK1.out; omega⟩, ⟨(rr_ HO_3)⟩, ⟨hB_⟩⟩
      · rw [if_neg c6] at H
        have c6b0 := decide_eq_false c6
        clear c6
        obtain rfl := Option.some.inj H
        go_wp2
        go_ret
        exact ⟨_, qb_, (rr_ HO_3), hB_⟩
end Go.Proofs.Ytcggfjpnfodbaaa.A
end
section
namespace Go.Proofs.Ytcggfjpnfodbaaa.A
open Go.RowKit Go.Proofs.YtcggfjpnfodbaaaW.PrintWords Go.Proofs.YtcggfjpnfodbaaaW.PrintLast Go.Proofs.YtcggfjpnfodbaaaW.PrintMore
attribute [local go_sem] max2_int min2_int max_two min_two max_three min_three max_four min_four
set_option linter.unusedVariables false
set_option linter.unusedSimpArgs false
def spec_l03Names.f (k : Nat) (l0_0 : List Int) (l0_1 : List Int) (a1 : Int) : Option (List Int) := (spec_l02Reach.f k l0_0 l0_1 a1).bind fun t751 => ((spec_l02Inverse.f k t751).bind fun t754 => (some t754))
theorem spec_l03Names.mono : ∀ a0 a1 a2 k, LeO (spec_l03Names.f k a0 a1 a2) (spec_l03Names.f (k + 1) a0 a1 a2) := by
  intro a0 a1 a2 k
  unfold spec_l03Names.f
  repeat' first|exact spec_l02Inverse.mono _ _|exact spec_l02Reach.mono _ _ _ _|exact lo_|refine LeO.ite ?_ ?_|refine LeO.bind ?_ (fun _ => ?_)
set_option maxHeartbeats 8000000 in
set_option maxRecDepth 100000 in
theorem spec_l03Names.calls (k : Nat) (A0_0 : Option Addr) (c0_0 : Nat) (l0_0 : List Int) (A0_1 : Option Addr) (c0_1 : Nat) (l0_1 : List Int) (a1 : Int) (r : List Int) (w : World) (hr0_0 : Kd.C (Kd.int .i64) w A0_0 l0_0.length l0_0) (hc0_0 : l0_0.length ≤ c0_0) (hr0_1 : Kd.C (Kd.int .i64) w A0_1 l0_1.length l0_1) (hc0_1 : l0_1.length ≤ c0_1) (h : spec_l03Names.f k l0_0 l0_1 a1 = some r) :
    Calls Try.prog 120 #[.agg #[.slice A0_0 l0_0.length c0_0, .slice A0_1 l0_1.length c0_1], .int .i64 a1] w fun e w' => ∃ v0_ : Value, e = .returned (v0_) ∧ Kd.R (Kd.int .i64) 3 w' w.heap.size (fun _ => True) v0_ r ∧ Below w.heap.size w w' := by
  have hu25 := Try.underlying25
  have HR0_0 := Aside0.mk hr0_0
  have HC0_0 := Aside0.mk hc0_0
  clear hr0_0 hc0_0
  have HR0_1 := Aside0.mk hr0_1
  have HC0_1 := Aside0.mk hc0_1
  clear hr0_1 hc0_1
  have HB := Aside0.mk (Below.refl w.heap.size w)
  have H := h
  unfold spec_l03Names.f at H
  clear h
  obtain ⟨t751, A3, H⟩ := bi_ H
  obtain ⟨t754, A4, H⟩ := bi_ H
  obtain rfl := Option.some.inj H
  go_enter Try.func120, Try.ntmps120
  go_wp2_with (first | ((with_reducible refine gate_dst (N := 2) rfl ?_); refine bx_ 2 #[.slice A0_0 l0_0.length c0_0, .slice A0_1 l0_1.length c0_1] 25 ?_; intro gb750 hg w5 hbox hb; have BK750 := Aside0.mk hbox; have GW750 := gw_ w hg; have GE750 := GW750; replace HB := b1_ hb; clear hb hbox hg; obtain ⟨hcz6_0, hcz6_1, hfz6_0, hfz6_1⟩ := c2_ BK750) | ((with_reducible refine gate_callee (f := 147) rfl ?_); refine gL_ (some 10) Try.func147 #[.slice A0_0 l0_0.length c0_0, .slice A0_1 l0_1.length c0_1, .int .i64 a1] rfl qa_ ?_; (with_reducible refine (spec_l02Reach.calls k _ _ l0_0 _ _ l0_1 a1 t751 _ (cb_ HR0_0) HC0_0.out (cb_ HR0_1) HC0_1.out A3.out).mono ?_); rintro e w7 ⟨v752, rfl, ho0, hb⟩; refine ⟨_, rfl, ?_⟩; have HO753 := rl_ w ho0; replace BK750 := bb_ BK750 hb; replace HB := b1_ hb; clear hb ho0; obtain ⟨Ao8, co8, eo8⟩ := Kd.R_slice HO753.out; subst eo8) | ((with_reducible refine gate_callee (f := 150) rfl ?_); refine gL_ (some 11) Try.func150 #[.slice Ao8 t751.length co8] rfl qa_ ?_; (with_reducible refine (spec_l02Inverse.calls k _ _ t751 t754 _ (cr_ HO753) ((Kd.R_reads' HO753.out).2.1) A4.out).mono ?_); rintro e w9 ⟨v755, rfl, ho0, hb⟩; refine ⟨_, rfl, ?_⟩; have HO756 := Aside0.mk (Kd.R_lower (Kd.R_new' ho0 (Kd.R_lt (rr_ HO753))) (below_size hB_)); replace HO753 := Aside0.mk (Kd.R_elder' (rr_ HO753) (Kd.R_base ho0) hb); replace BK750 := bb_ BK750 hb; replace HB := b1_ hb; clear hb ho0))
  go_ret
  exact ⟨_, qb_, (rw_ (Kd.R_mono HO756.out (fun _ hk => trivial))), hB_⟩
end Go.Proofs.Ytcggfjpnfodbaaa.A
end
section
namespace Go.Proofs.Ytcggfjpnfodbaaa.A
open Go.RowKit Go.Proofs.YtcggfjpnfodbaaaW.PrintWords Go.Proofs.YtcggfjpnfodbaaaW.PrintLast Go.Proofs.YtcggfjpnfodbaaaW.PrintMore
attribute [local go_sem] max2_int min2_int max_two min_two max_three min_three max_four min_four
set_option linter.unusedVariables false
set_option linter.unusedSimpArgs false
def spec_l03Less.l0 : Nat → List Int → List Int → Int → Int → Option (Bool)
  | 0, _, _, _, _ => none
  | k + 1, x1, x7, x8, x9 => if x9 < x8 then (if 0 ≤ x9 then (if x9 < (x7.length : Int) then (if x9 < (x1.length : Int) then (if (rd x7 x9) = (rd x1 x9) then (spec_l03Less.l0 k x1 x7 x8 (wrap64 (x9 + 1))) else (some (decide ((rd x7 x9) < (rd x1 x9))))) else (none)) else (none)) else (none)) else (some false)
def spec_l03Less.f (k : Nat) (l0 : List Int) (l1 : List Int) : Option (Bool) := spec_l03Less.l0 k l1 l0 (l0.length : Int) 0
theorem spec_l03Less.mono_l : ∀ k, (∀ y0 y1 y2 y3, LeO (spec_l03Less.l0 k y0 y1 y2 y3) (spec_l03Less.l0 (k + 1) y0 y1 y2 y3))
  | 0 => fun _ _ _ _ r h => by simp [spec_l03Less.l0] at h
  | k + 1 => by
    have ih0 := spec_l03Less.mono_l k
    · intro y0 y1 y2 y3
      unfold spec_l03Less.l0
      repeat' first|exact ih0 _ _ _ _|exact lo_|refine LeO.ite ?_ ?_|refine LeO.bind ?_ (fun _ => ?_)
theorem spec_l03Less.mono : ∀ a0 a1 k, LeO (spec_l03Less.f k a0 a1) (spec_l03Less.f (k + 1) a0 a1) := by
  intro a0 a1 k
  have ih0 := spec_l03Less.mono_l k
  unfold spec_l03Less.f
  repeat' first|exact ih0 _ _ _ _|exact lo_|refine LeO.ite ?_ ?_|refine LeO.bind ?_ (fun _ => ?_)
set_option maxHeartbeats 8000000 in
set_option maxRecDepth 100000 in
theorem spec_l03Less.calls (k : Nat) (A0 : Option Addr) (c0 : Nat) (l0 : List Int) (A1 : Option Addr) (c1 : Nat) (l1 : List Int) (r : Bool) (w : World) (hr0 : Kd.C (Kd.int .i64) w A0 l0.length l0) (hc0 : l0.length ≤ c0) (hr1 : Kd.C (Kd.int .i64) w A1 l1.length l1) (hc1 : l1.length ≤ c1) (h : spec_l03Less.f k l0 l1 = some r) :
    Calls Try.prog 151 #[.slice A0 l0.length c0, .slice A1 l1.length c1] w fun e w' => e = .returned (.bool r) ∧ Drawn0 w w' := by
  have HR0 := Aside0.mk hr0
  have HC0 := Aside0.mk hc0
  clear hr0 hc0
  have HR1 := Aside0.mk hr1
  have HC1 := Aside0.mk hc1
  clear hr1 hc1
  have H := h
  unfold spec_l03Less.f at H
  clear h
  have H' := Aside0.mk H
  clear H
  go_enter Try.func151, Try.ntmps151
  go_wp2
  go_loopg [9] k (fun kq v9 w' => ∃ (x9_1 : Int), v9 = .int .i64 x9_1 ∧ Aside0 (spec_l03Less.l0 kq l1 l0 (l0.length : Int) x9_1 = some r) ∧ Aside0 (kq ≤ k) ∧ Drawn0 w w')
  case atStart => exact ⟨(0), qc_, H', ⟨Nat.le_refl _⟩, by repeat (first | exact Drawn0.refl _ | apply Drawn0.step)⟩
  case round =>
    clear H'
    obtain ⟨x9_1, rfl, HA, HK1, ⟨m1, rfl⟩⟩ := hrel
    cases gk with
    | zero => exact absurd HA.out (by simp [spec_l03Less.l0])
    | succ k1 =>
      have H := HA.out
      clear HA
      simp only [spec_l03Less.l0] at H
      by_cases c3 : x9_1 < (l0.length : Int)
      · rw [if_pos c3] at H
        have c3b0 := decide_eq_true c3
        clear c3
        have c4 := cp_ H
        replace H := ca_ H
        have c4b0 := decide_eq_true c4
        clear c4
        have c5 := cp_ H
        replace H := ca_ H
        have c5b0 := decide_eq_true c5
        clear c5
        have c6 := cp_ H
        replace H := ca_ H
        have c6b0 := decide_eq_true c6
        clear c6
        by_cases c7 : (rd l0 x9_1) = (rd l1 x9_1)
        · rw [if_pos c7] at H
          have c7b0 : ((rd l0 x9_1) == (rd l1 x9_1)) = true := beq_iff_eq.mpr c7
          have c7b1 : ((rd l0 x9_1) != (rd l1 x9_1)) = false := bne_eq_false_iff_eq.mpr c7
          clear c7
          have H' := Aside0.mk H
          clear H
          have p757 : 0 ≤ (x9_1 : Int) := of_decide_eq_true qe_
          have q757 : x9_1 < (l0.length : Int) := of_decide_eq_true qe_
          obtain ⟨ad757, e757, hx757_0⟩ := Kd.at_int HR0.out x9_1 p757 q757
          cases e757
          replace p757 := eq_true p757
          replace q757 := eq_true q757
          have p758 : 0 ≤ (x9_1 : Int) := of_decide_eq_true qe_
          have q758 : x9_1 < (l1.length : Int) := of_decide_eq_true qe_
          obtain ⟨ad758, e758, hx758_0⟩ := Kd.at_int HR1.out x9_1 p758 q758
          cases e758
          replace p758 := eq_true p758
          replace q758 := eq_true q758
          go_wp2
          go_roundg k1
          case measure => have := HK1.out; omega
          case rel => exact ⟨(wrap64 (x9_1 + 1)), qc_, H', ⟨by have := HK1.out; omega⟩, by repeat (first | exact Drawn0.refl _ | apply Drawn0.step)⟩
        · rw [if_neg c7] at H
          have c7b0 : ((rd l0 x9_1) == (rd l1 x9_1)) = false := beq_eq_false_iff_ne.mpr c7
          have c7b1 : ((rd l0 x9_1) != (rd l1 x9_1)) = true := bne_iff_ne.mpr c7
          obtain rfl := Option.some.inj H
          have p757 : 0 ≤ (x9_1 : Int) := of_decide_eq_true qe_
          have q757 : x9_1 < (l0.length : Int) := of_decide_eq_true qe_
          obtain ⟨ad757, e757, hx757_0⟩ := Kd.at_int HR0.out x9_1 p757 q757
          cases e757
          replace p757 := eq_true p757
          replace q757 := eq_true q757
          have p758 : 0 ≤ (x9_1 : Int) := of_decide_eq_true qe_
          have q758 : x9_1 < (l1.length : Int) := of_decide_eq_true qe_
          obtain ⟨ad758, e758, hx758_0⟩ := Kd.at_int HR1.out x9_1 p758 q758
          cases e758
          replace p758 := eq_true p758
          replace q758 := eq_true q758
          have p759 : 0 ≤ (x9_1 : Int) := of_decide_eq_true qe_
          have q759 : x9_1 < (l1.length : Int) := of_decide_eq_true qe_
          obtain ⟨ad759, e759, hx759_0⟩ := Kd.at_int HR1.out x9_1 p759 q759
          obtain rfl : ad758 = ad759 := (by injection e759)
          replace p759 := eq_true p759
          replace q759 := eq_true q759
          go_wp2
          go_ret
          exact ⟨qc_, by repeat (first | exact Drawn0.refl _ | apply Drawn0.step)⟩
      · rw [if_neg c3] at H
        have c3b0 := decide_eq_false c3
        clear c3
        obtain rfl := Option.some.inj H
        go_wp2
        go_ret
        exact ⟨qc_, by repeat (first | exact Drawn0.refl _ | apply Drawn0.step)⟩
end Go.Proofs.Ytcggfjpnfodbaaa.A
end
section
namespace Go.Proofs.Ytcggfjpnfodbaaa.A
open Go.RowKit Go.Proofs.YtcggfjpnfodbaaaW.PrintWords Go.Proofs.YtcggfjpnfodbaaaW.PrintLast Go.Proofs.YtcggfjpnfodbaaaW.PrintMore
attribute [local go_sem] max2_int min2_int max_two min_two max_three min_three max_four min_four
set_option linter.unusedVariables false
set_option linter.unusedSimpArgs false
def spec_l03Before.f (k : Nat) (l0_0 : List Int) (l0_1 : List Int) (l1_0 : List Int) (l1_1 : List Int) : Option (Bool) := (spec_SameList.f k l0_0 l1_0).bind fun t762 => (if t762 = true then ((spec_l03Less.f k l0_1 l1_1).bind fun t763 => (some t763)) else ((spec_l03Less.f k l0_0 l1_0).bind fun t764 => (some t764)))
theorem spec_l03Before.mono : ∀ a0 a1 a2 a3 k, LeO (spec_l03Before.f k a0 a1 a2 a3) (spec_l03Before.f (k + 1) a0 a1 a2 a3) := by
  intro a0 a1 a2 a3 k
  unfold spec_l03Before.f
  repeat' first|exact spec_SameList.mono _ _ _|exact spec_l03Less.mono _ _ _|exact lo_|refine LeO.ite ?_ ?_|refine LeO.bind ?_ (fun _ => ?_)
set_option maxHeartbeats 8000000 in
set_option maxRecDepth 100000 in
theorem spec_l03Before.calls (k : Nat) (A0_0 : Option Addr) (c0_0 : Nat) (l0_0 : List Int) (A0_1 : Option Addr) (c0_1 : Nat) (l0_1 : List Int) (A1_0 : Option Addr) (c1_0 : Nat) (l1_0 : List Int) (A1_1 : Option Addr) (c1_1 : Nat) (l1_1 : List Int) (r : Bool) (w : World) (hr0_0 : Kd.C (Kd.int .i64) w A0_0 l0_0.length l0_0) (hc0_0 : l0_0.length ≤ c0_0) (hr0_1 : Kd.C (Kd.int .i64) w A0_1 l0_1.length l0_1) (hc0_1 : l0_1.length ≤ c0_1) (hr1_0 : Kd.C (Kd.int .i64) w A1_0 l1_0.length l1_0) (hc1_0 : l1_0.length ≤ c1_0) (hr1_1 : Kd.C (Kd.int .i64) w A1_1 l1_1.length l1_1) (hc1_1 : l1_1.length ≤ c1_1) (h : spec_l03Before.f k l0_0 l0_1 l1_0 l1_1 = some r) :
    Calls Try.prog 121 #[.agg #[.slice A0_0 l0_0.length c0_0, .slice A0_1 l0_1.length c0_1], .agg #[.slice A1_0 l1_0.length c1_0, .slice A1_1 l1_1.length c1_1]] w fun e w' => e = .returned (.bool r) ∧ Below w.heap.size w w' := by
  have hu25 := Try.underlying25
  have HR0_0 := Aside0.mk hr0_0
  have HC0_0 := Aside0.mk hc0_0
  clear hr0_0 hc0_0
  have HR0_1 := Aside0.mk hr0_1
  have HC0_1 := Aside0.mk hc0_1
  clear hr0_1 hc0_1
  have HR1_0 := Aside0.mk hr1_0
  have HC1_0 := Aside0.mk hc1_0
  clear hr1_0 hc1_0
  have HR1_1 := Aside0.mk hr1_1
  have HC1_1 := Aside0.mk hc1_1
  clear hr1_1 hc1_1
  have HB := Aside0.mk (Below.refl w.heap.size w)
  have H := h
  unfold spec_l03Before.f at H
  clear h
  obtain ⟨t762, A3, H⟩ := bi_ H
  by_cases c4 : t762 = true
  · subst c4
    rw [if_pos rfl] at H
    obtain ⟨t763, A5, H⟩ := bi_ H
    obtain rfl := Option.some.inj H
    go_enter Try.func121, Try.ntmps121
    go_wp2_with (first | ((with_reducible refine gate_dst (N := 2) rfl ?_); refine bx_ 2 #[.slice A0_0 l0_0.length c0_0, .slice A0_1 l0_1.length c0_1] 25 ?_; intro gb760 hg w6 hbox hb; have BK760 := Aside0.mk hbox; have GW760 := gw_ w hg; have GE760 := GW760; replace HB := b1_ hb; clear hb hbox hg) | ((with_reducible refine gate_dst (N := 3) rfl ?_); refine bx_ 3 #[.slice A1_0 l1_0.length c1_0, .slice A1_1 l1_1.length c1_1] 25 ?_; intro gb761 hg w7 hbox hb; have BK761 := Aside0.mk hbox; have GW761 := gw_ w hg; have GE761 := GW761; replace HB := b1_ hb; have NB760_761 := gN_ BK760 hg; have NB761_760 := gP_ BK760 hg; replace BK760 := bb_ BK760 hb; clear hb hbox hg; have hnb8 := NB760_761.out; have hnc8 := NB761_760.out; obtain ⟨hcz9_0, hcz9_1, hfz9_0, hfz9_1⟩ := c2_ BK760; obtain ⟨hcz10_0, hcz10_1, hfz10_0, hfz10_1⟩ := c2_ BK761) | ((with_reducible refine gate_callee (f := 148) rfl ?_); refine gL_ (some 9) Try.func148 #[.slice A0_0 l0_0.length c0_0, .slice A1_0 l1_0.length c1_0] rfl qa_ ?_; (with_reducible refine (spec_SameList.calls k _ _ l0_0 _ _ l1_0 true _ (cb_ HR0_0) HC0_0.out (cb_ HR1_0) HC1_0.out A3.out).mono ?_); rintro e w' ⟨rfl, ⟨nd, rfl⟩⟩; refine ⟨_, rfl, ?_⟩) | ((with_reducible refine gate_callee (f := 151) rfl ?_); refine gL_ (some 14) Try.func151 #[.slice A0_1 l0_1.length c0_1, .slice A1_1 l1_1.length c1_1] rfl qa_ ?_; (with_reducible refine (spec_l03Less.calls k _ _ l0_1 _ _ l1_1 t763 _ (cw_ (Kd.C_below HR0_1.out hB_)) HC0_1.out (cw_ (Kd.C_below HR1_1.out hB_)) HC1_1.out A5.out).mono ?_); rintro e w' ⟨rfl, ⟨nd, rfl⟩⟩; refine ⟨_, rfl, ?_⟩))
    go_ret
    exact ⟨qb_, hB_⟩
  · replace c4 := Bool.eq_false_iff.mpr c4
    subst c4
    have H1 : ((spec_l03Less.f k l0_0 l1_0).bind fun t764 => (some t764)) = some r := by rw [if_neg (show ¬ (false = true) by decide)] at H; exact H
    clear H
    have H := H1
    clear H1
    obtain ⟨t764, A11, H⟩ := bi_ H
    obtain rfl := Option.some.inj H
    go_enter Try.func121, Try.ntmps121
    go_wp2_with (first | ((with_reducible refine gate_dst (N := 2) rfl ?_); refine bx_ 2 #[.slice A0_0 l0_0.length c0_0, .slice A0_1 l0_1.length c0_1] 25 ?_; intro gb760 hg w12 hbox hb; have BK760 := Aside0.mk hbox; have GW760 := gw_ w hg; have GE760 := GW760; replace HB := b1_ hb; clear hb hbox hg) | ((with_reducible refine gate_dst (N := 3) rfl ?_); refine bx_ 3 #[.slice A1_0 l1_0.length c1_0, .slice A1_1 l1_1.length c1_1] 25 ?_; intro gb761 hg w13 hbox hb; have BK761 := Aside0.mk hbox; have GW761 := gw_ w hg; have GE761 := GW761; replace HB := b1_ hb; have NB760_761 := gN_ BK760 hg; have NB761_760 := gP_ BK760 hg; replace BK760 := bb_ BK760 hb; clear hb hbox hg; have hnb14 := NB760_761.out; have hnc14 := NB761_760.out; obtain ⟨hcz15_0, hcz15_1, hfz15_0, hfz15_1⟩ := c2_ BK760; obtain ⟨hcz16_0, hcz16_1, hfz16_0, hfz16_1⟩ := c2_ BK761) | ((with_reducible refine gate_callee (f := 148) rfl ?_); refine gL_ (some 9) Try.func148 #[.slice A0_0 l0_0.length c0_0, .slice A1_0 l1_0.length c1_0] rfl qa_ ?_; (with_reducible refine (spec_SameList.calls k _ _ l0_0 _ _ l1_0 false _ (cb_ HR0_0) HC0_0.out (cb_ HR1_0) HC1_0.out A3.out).mono ?_); rintro e w' ⟨rfl, ⟨nd, rfl⟩⟩; refine ⟨_, rfl, ?_⟩) | ((with_reducible refine gate_callee (f := 151) rfl ?_); refine gL_ (some 19) Try.func151 #[.slice A0_0 l0_0.length c0_0, .slice A1_0 l1_0.length c1_0] rfl qa_ ?_; (with_reducible refine (spec_l03Less.calls k _ _ l0_0 _ _ l1_0 t764 _ (cw_ (Kd.C_below HR0_0.out hB_)) HC0_0.out (cw_ (Kd.C_below HR1_0.out hB_)) HC1_0.out A11.out).mono ?_); rintro e w' ⟨rfl, ⟨nd, rfl⟩⟩; refine ⟨_, rfl, ?_⟩))
    go_ret
    exact ⟨qb_, hB_⟩
end Go.Proofs.Ytcggfjpnfodbaaa.A
end
section
namespace Go.Proofs.Ytcggfjpnfodbaaa.A
open Go.RowKit Go.Proofs.YtcggfjpnfodbaaaW.PrintWords Go.Proofs.YtcggfjpnfodbaaaW.PrintLast Go.Proofs.YtcggfjpnfodbaaaW.PrintMore
attribute [local go_sem] max2_int min2_int max_two min_two max_three min_three max_four min_four
set_option linter.unusedVariables false
set_option linter.unusedSimpArgs false
def spec_l03Canon.l0 : Nat → Int → List Int → List Int → List Int → List Int → Option (List Int × List Int)
  | 0, _, _, _, _, _ => none
  | k + 1, x4, x766000, x766001, x777000, x777001 => if x4 < (x766000.length : Int) then ((spec_l03Names.f k x766000 x766001 x4).bind fun t777 => ((spec_l03Rename.f k x766000 x766001 t777).bind fun bt780 => ((spec_l03Before.f k bt780.1 bt780.2 x777000 x777001).bind fun t787 => (if t787 = true then (spec_l03Canon.l0 k (wrap64 (x4 + 1)) x766000 x766001 bt780.1 bt780.2) else (spec_l03Canon.l0 k (wrap64 (x4 + 1)) x766000 x766001 x777000 x777001))))) else (some (x777000, x777001))
def spec_l03Canon.f (k : Nat) (l0_0 : List Int) (l0_1 : List Int) : Option (List Int × List Int) := (spec_l03Names.f k l0_0 l0_1 0).bind fun t767 => ((spec_l03Rename.f k l0_0 l0_1 t767).bind fun bt770 => (spec_l03Canon.l0 k 1 l0_0 l0_1 bt770.1 bt770.2))
theorem spec_l03Canon.mono_l : ∀ k, (∀ y0 y1 y2 y3 y4, LeO (spec_l03Canon.l0 k y0 y1 y2 y3 y4) (spec_l03Canon.l0 (k + 1) y0 y1 y2 y3 y4))
  | 0 => fun _ _ _ _ _ r h => by simp [spec_l03Canon.l0] at h
  | k + 1 => by
    have ih0 := spec_l03Canon.mono_l k
    · intro y0 y1 y2 y3 y4
      unfold spec_l03Canon.l0
      repeat' first|exact ih0 _ _ _ _ _|exact spec_l03Before.mono _ _ _ _ _|exact spec_l03Names.mono _ _ _ _|exact spec_l03Rename.mono _ _ _ _|exact lo_|refine LeO.ite ?_ ?_|refine LeO.bind ?_ (fun _ => ?_)
theorem spec_l03Canon.mono : ∀ a0 a1 k, LeO (spec_l03Canon.f k a0 a1) (spec_l03Canon.f (k + 1) a0 a1) := by
  intro a0 a1 k
  have ih0 := spec_l03Canon.mono_l k
  unfold spec_l03Canon.f
  repeat' first|exact ih0 _ _ _ _ _|exact spec_l03Before.mono _ _ _ _ _|exact spec_l03Names.mono _ _ _ _|exact spec_l03Rename.mono _ _ _ _|exact lo_|refine LeO.ite ?_ ?_|refine LeO.bind ?_ (fun _ => ?_)
set_option maxHeartbeats 8000000 in
set_option maxRecDepth 100000 in
theorem spec_l03Canon.calls (k : Nat) (A0_0 : Option Addr) (c0_0 : Nat) (l0_0 : List Int) (A0_1 : Option Addr) (c0_1 : Nat) (l0_1 : List Int) (r1 : List Int) (r2 : List Int) (w : World) (hr0_0 : Kd.C (Kd.int .i64) w A0_0 l0_0.length l0_0) (hc0_0 : l0_0.length ≤ c0_0) (hr0_1 : Kd.C (Kd.int .i64) w A0_1 l0_1.length l0_1) (hc0_1 : l0_1.length ≤ c0_1) (h : spec_l03Canon.f k l0_0 l0_1 = some (r1, r2)) :
    Calls Try.prog 82 #[.agg #[.slice A0_0 l0_0.length c0_0, .slice A0_1 l0_1.length c0_1]] w fun e w' => ∃ v0_ v1_ : Value, e = .returned (.agg #[v0_, v1_]) ∧ Kd.R (Kd.int .i64) 3 w' w.heap.size (fun k_ => some k_ ≠ (v1_ : Value).ownBlock) v0_ r1 ∧ Kd.R (Kd.int .i64) 3 w' w.heap.size (fun k_ => some k_ ≠ (v0_ : Value).ownBlock) v1_ r2 ∧ Below w.heap.size w w' := by
  have hu25 := Try.underlying25
  have HR0_0 := Aside0.mk hr0_0
  have HC0_0 := Aside0.mk hc0_0
  clear hr0_0 hc0_0
  have HR0_1 := Aside0.mk hr0_1
  have HC0_1 := Aside0.mk hc0_1
  clear hr0_1 hc0_1
  have HB := Aside0.mk (Below.refl w.heap.size w)
  have H := h
  unfold spec_l03Canon.f at H
  clear h
  obtain ⟨t767, A2, H⟩ := bi_ H
  obtain ⟨⟨t770, t773⟩, A3, H⟩ := bi_ H
  try dsimp only at H
  have H' := Aside0.mk H
  clear H
  go_enter Try.func82, Try.ntmps82
  try go_wp2_with (first | ((with_reducible refine gate_dst (N := 1) rfl ?_); refine bx_ 1 #[.slice A0_0 l0_0.length c0_0, .slice A0_1 l0_1.length c0_1] 25 ?_; intro gb765 hg w4 hbox hb; have BK765 := Aside0.mk hbox; have GW765 := gw_ w hg; have GE765 := GW765; replace HB := b1_ hb; clear hb hbox hg) | ((with_reducible refine gate_dst (N := 2) rfl ?_); refine bx_ 2 #[.slice none 0 0, .slice none 0 0] 25 ?_; intro gb766 hg w5 hbox hb; have BK766 := Aside0.mk hbox; have GW766 := gw_ w hg; have GE766 := GW766; replace HB := b1_ hb; have NB765_766 := gN_ BK765 hg; have NB766_765 := gP_ BK765 hg; replace BK765 := bb_ BK765 hb; clear hb hbox hg))
  replace BK765 := Aside0.mk (blk_drew BK765.out)
  replace BK766 := Aside0.mk (blk_drew BK766.out)
  replace HB := Aside0.mk (below_drew1 HB.out)
  refine start_ (n := 6) (S := fun w' => w'.cell? ⟨gb765, 0, none⟩ = some (.slice A0_0 l0_0.length c0_0) ∧ w'.cell? ⟨gb765, 1, none⟩ = some (.slice A0_1 l0_1.length c0_1)) (ds := []) (bl_ 6 0) (by kernel_rfl) rfl (by kernel_rfl) ⟨cz0_ BK765, cz1_ BK765⟩ (fun hHeld => ?_)
  generalize w5.drew = w6 at BK765 BK766 HB hHeld ⊢
  refine take_ (i := 0) (N := some 6) (v := ?_) (a' := ?_) (bl_ 6 1) rfl rfl (by kernel_rfl) (fun _ _ _ h => h) (Or.inl ⟨by rfl, ?_⟩) hHeld ?_ ?_
  rotate_left
  · rintro w' ⟨s0, s1⟩
    go_simp
    with_reducible rfl
  rotate_left
  · simp only [Act.put, List.setIfInBounds_toArray, List.set_cons_zero, List.set_cons_succ, i64_w, i32_w]
    rfl
  refine take_ (i := 1) (N := some 7) (v := ?_) (a' := ?_) (bl_ 6 3) rfl rfl (by kernel_rfl) (fun _ _ _ h => h) (Or.inl ⟨by rfl, ?_⟩) hHeld ?_ ?_
  rotate_left
  · rintro w' ⟨s0, s1⟩
    go_simp
    with_reducible rfl
  rotate_left
  · simp only [Act.put, List.setIfInBounds_toArray, List.set_cons_zero, List.set_cons_succ, i64_w, i32_w]
    rfl
  refine join_ (σ := Value × Value × Value × Nat) 1 (bl_ 6 31) (fun s_ => [(8, s_.1), (9, .agg #[s_.2.1, s_.2.2.1]), (3, .pointer (some ⟨s_.2.2.2, 0, none⟩))]) (fun s_ w' => (w'.cell? ⟨gb765, 0, none⟩ = some (.slice A0_0 l0_0.length c0_0) ∧ w'.cell? ⟨gb765, 1, none⟩ = some (.slice A0_1 l0_1.length c0_1)) ∧ (Kd.R (Kd.int .i64) 3 w' w.heap.size (fun k_ => some k_ ≠ (s_.2.1 : Value).ownBlock ∧ some k_ ≠ (s_.2.2.1 : Value).ownBlock) s_.1 t767) ∧ (Kd.R (Kd.int .i64) 3 w' w.heap.size (fun k_ => some k_ ≠ (s_.1 : Value).ownBlock ∧ some k_ ≠ (s_.2.2.1 : Value).ownBlock) s_.2.1 t770) ∧ (Kd.R (Kd.int .i64) 3 w' w.heap.size (fun k_ => some k_ ≠ (s_.1 : Value).ownBlock ∧ some k_ ≠ (s_.2.1 : Value).ownBlock) s_.2.2.1 t773) ∧ (w'.heap[gb765]? = some (.cells #[.slice A0_0 l0_0.length c0_0, .slice A0_1 l0_1.length c0_1] 25 (0, 0))) ∧ (w'.heap[gb766]? = some (.cells #[.slice none 0 0, .slice none 0 0] 25 (0, 0))) ∧ (w'.heap[s_.2.2.2]? = some (.cells #[.slice none 0 0, .slice none 0 0] 25 (0, 0))) ∧ (w.heap.size ≤ s_.2.2.2) ∧ (w.heap.size ≤ s_.2.2.2) ∧ (gb765 ≠ s_.2.2.2) ∧ (s_.2.2.2 ≠ gb765) ∧ (gb766 ≠ s_.2.2.2) ∧ (s_.2.2.2 ≠ gb766) ∧ (Below w.heap.size w w')) ?_ ?_
  rotate_left
  · intro hCont
    refine two_ (i := 2) (j := 4) (Ni := some 8) (Nj := some 3) (bl_ 6 7) (bl_ 6 19) rfl rfl rfl rfl (by kernel_rfl) (by decide) (by decide) (fun K hK => ?_) (fun K hK => ?_)
    · skip
      refine gO_ Try.func120 #[.agg #[.slice A0_0 l0_0.length c0_0, .slice A0_1 l0_1.length c0_1], .int .i64 0] (by rfl) rfl rfl qa_ ?_
      with_reducible refine (spec_l03Names.calls k _ _ l0_0 _ _ l0_1 0 t767 _ (cb_ HR0_0) HC0_0.out (cb_ HR0_1) HC0_1.out A2.out).mono ?_
      rintro e w7 ⟨v768, rfl, ho0, hb⟩
      refine ⟨_, rfl, ?_⟩
      have HO769 := rl_ w ho0
      replace BK765 := bb_ BK765 hb
      replace BK766 := bb_ BK766 hb
      replace HB := b1_ hb
      clear hb ho0
      obtain ⟨Ao8, co8, eo8⟩ := Kd.R_slice HO769.out
      (first | subst eo8 | (injection eo8 with f1_ f2_ f3_; have f4_ := f1_.symm; have f5_ := f3_.symm; clear f1_ f2_ f3_; subst f4_; subst f5_))
      refine hK.out _ _ ⟨cz0_ BK765, cz1_ BK765⟩ (fun hHeld => ?_)
      clear hK K
      refine no_ (some 8) ?_
      refine two_ (i := 3) (j := 4) (Ni := some 9) (Nj := some 3) (bl_ 6 15) (bl_ 6 23) rfl rfl rfl rfl (by kernel_rfl) (by decide) (by decide) (fun K hK => ?_) (fun K hK => ?_)
      · skip
        refine gO_ Try.func119 #[.agg #[.slice A0_0 l0_0.length c0_0, .slice A0_1 l0_1.length c0_1], .slice Ao8 t767.length co8] (by rfl) rfl rfl qa_ ?_
        with_reducible refine (spec_l03Rename.calls k _ _ l0_0 _ _ l0_1 _ _ t767 t770 t773 _ (cb_ HR0_0) HC0_0.out (cb_ HR0_1) HC0_1.out (cr_ HO769) ((Kd.R_reads' HO769.out).2.1) A3.out).mono ?_
        rintro e w9 ⟨v771, v774, rfl, ho0, ho1, hb⟩
        refine ⟨_, rfl, ?_⟩
        have HO772 := Aside0.mk (Kd.R_lower (Kd.R_new' ho0 (Kd.R_lt (rr_ HO769))) (below_size hB_))
        have HO775 := Aside0.mk (Kd.R_lower (Kd.R_new' ho1 (Kd.R_lt (rr_ HO769))) (below_size hB_))
        replace HO769 := Aside0.mk (Kd.R_mono (Kd.R_told (Kd.R_told (Kd.R_old (rr_ HO769) hb) (Kd.R_base ho0)) (Kd.R_base ho1)) (fun _ h_ => h_.1))
        replace BK765 := bb_ BK765 hb
        replace BK766 := bb_ BK766 hb
        replace HB := b1_ hb
        clear hb ho0 ho1
        refine hK.out _ _ ⟨cz0_ BK765, cz1_ BK765⟩ (fun hHeld => ?_)
        clear hK K
        refine no_ (some 9) ?_
        refine one_ (i := 4) (N := some 3) (bl_ 6 31) rfl rfl (by kernel_rfl) (by decide) (fun K hK => ?_)
        refine box_step ?hg (N := 3) ?hd (cs := #[.slice none 0 0, .slice none 0 0]) (t := 25) ?hr ?_; (case hd => rfl); (case hg => rfl); (case hr => first | (go_simp; done) | (go_simp; rfl))
        intro gb776 hg w10 hbox hb
        replace HO769 := rb_ HO769 hb
        replace HO772 := rb_ HO772 hb
        replace HO775 := rb_ HO775 hb
        have BK776 := Aside0.mk hbox
        have GW776 := gw_ w hg
        have GE776 := GW776
        replace HB := b1_ hb
        have NB765_776 := gN_ BK765 hg
        have NB776_765 := gP_ BK765 hg
        replace BK765 := bb_ BK765 hb
        have NB766_776 := gN_ BK766 hg
        have NB776_766 := gP_ BK766 hg
        replace BK766 := bb_ BK766 hb
        clear hb hbox hg
        refine hK.out _ _ ⟨cz0_ BK765, cz1_ BK765⟩ (fun hHeld => ?_)
        clear hK K
        refine no_ (some 3) ?_
        exact norm_ (by simp only [putAll, Act.put, List.setIfInBounds_toArray, List.set_cons_zero, List.set_cons_succ]) (hCont (.slice Ao8 t767.length co8, v771, v774, gb776) _ ⟨hHeld, (rw_ (Kd.R_mono HO769.out (fun _ hk => ⟨hk.1.2, hk.2⟩))), (rw_ (Kd.R_mono HO772.out (fun _ hk => ⟨hk.2, hk.1⟩))), (rw_ (Kd.R_mono HO775.out (fun _ hk => ⟨hk.2, hk.1⟩))), (kk_ BK765), (kk_ BK766), (kk_ BK776), GW776.out, GE776.out, NB765_776.out, NB776_765.out, NB766_776.out, NB776_766.out, hB_⟩)
      · skip
        refine box_step ?hg (N := 3) ?hd (cs := #[.slice none 0 0, .slice none 0 0]) (t := 25) ?hr ?_; (case hd => rfl); (case hg => rfl); (case hr => first | (go_simp; done) | (go_simp; rfl))
        intro gb776 hg w8 hbox hb
        replace HO769 := rb_ HO769 hb
        have BK776 := Aside0.mk hbox
        have GW776 := gw_ w hg
        have GE776 := GW776
        replace HB := b1_ hb
        have NB765_776 := gN_ BK765 hg
        have NB776_765 := gP_ BK765 hg
        replace BK765 := bb_ BK765 hb
        have NB766_776 := gN_ BK766 hg
        have NB776_766 := gP_ BK766 hg
        replace BK766 := bb_ BK766 hb
        clear hb hbox hg
        obtain ⟨Ao9, co9, eo9⟩ := Kd.R_slice HO769.out
        (first | subst eo9 | (injection eo9 with f1_ f2_ f3_; have f4_ := f1_.symm; have f5_ := f3_.symm; clear f1_ f2_ f3_; subst f4_; subst f5_))
        refine hK.out _ _ ⟨cz0_ BK765, cz1_ BK765⟩ (fun hHeld => ?_)
        clear hK K
        refine no_ (some 3) ?_
        refine one_ (i := 3) (N := some 9) (bl_ 6 31) rfl rfl (by kernel_rfl) (by decide) (fun K hK => ?_)
        refine gO_ Try.func119 #[.agg #[.slice A0_0 l0_0.length c0_0, .slice A0_1 l0_1.length c0_1], .slice Ao9 t767.length co9] (by rfl) rfl rfl qa_ ?_
        with_reducible refine (spec_l03Rename.calls k _ _ l0_0 _ _ l0_1 _ _ t767 t770 t773 _ (cb_ HR0_0) HC0_0.out (cb_ HR0_1) HC0_1.out (cr_ HO769) ((Kd.R_reads' HO769.out).2.1) A3.out).mono ?_
        rintro e w10 ⟨v771, v774, rfl, ho0, ho1, hb⟩
        refine ⟨_, rfl, ?_⟩
        have HO772 := Aside0.mk (Kd.R_lower (Kd.R_new' ho0 (Kd.R_lt (rr_ HO769))) (below_size hB_))
        have HO775 := Aside0.mk (Kd.R_lower (Kd.R_new' ho1 (Kd.R_lt (rr_ HO769))) (below_size hB_))
        replace HO769 := Aside0.mk (Kd.R_mono (Kd.R_told (Kd.R_told (Kd.R_old (rr_ HO769) hb) (Kd.R_base ho0)) (Kd.R_base ho1)) (fun _ h_ => h_.1))
        replace BK765 := bb_ BK765 hb
        replace BK766 := bb_ BK766 hb
        replace BK776 := bb_ BK776 hb
        replace HB := b1_ hb
        clear hb ho0 ho1
        refine hK.out _ _ ⟨cz0_ BK765, cz1_ BK765⟩ (fun hHeld => ?_)
        clear hK K
        refine no_ (some 9) ?_
        exact norm_ (by simp only [putAll, Act.put, List.setIfInBounds_toArray, List.set_cons_zero, List.set_cons_succ]) (hCont (.slice Ao9 t767.length co9, v771, v774, gb776) _ ⟨hHeld, (rw_ (Kd.R_mono HO769.out (fun _ hk => ⟨hk.1.2, hk.2⟩))), (rw_ (Kd.R_mono HO772.out (fun _ hk => ⟨hk.2, hk.1⟩))), (rw_ (Kd.R_mono HO775.out (fun _ hk => ⟨hk.2, hk.1⟩))), (kk_ BK765), (kk_ BK766), (kk_ BK776), GW776.out, GE776.out, NB765_776.out, NB776_765.out, NB766_776.out, NB776_766.out, hB_⟩)
    · skip
      refine box_step ?hg (N := 3) ?hd (cs := #[.slice none 0 0, .slice none 0 0]) (t := 25) ?hr ?_; (case hd => rfl); (case hg => rfl); (case hr => first | (go_simp; done) | (go_simp; rfl))
      intro gb776 hg w7 hbox hb
      have BK776 := Aside0.mk hbox
      have GW776 := gw_ w hg
      have GE776 := GW776
      replace HB := b1_ hb
      have NB765_776 := gN_ BK765 hg
      have NB776_765 := gP_ BK765 hg
      replace BK765 := bb_ BK765 hb
      have NB766_776 := gN_ BK766 hg
      have NB776_766 := gP_ BK766 hg
      replace BK766 := bb_ BK766 hb
      clear hb hbox hg
      refine hK.out _ _ ⟨cz0_ BK765, cz1_ BK765⟩ (fun hHeld => ?_)
      clear hK K
      refine no_ (some 3) ?_
      refine one_ (i := 2) (N := some 8) (bl_ 6 23) rfl rfl (by kernel_rfl) (by decide) (fun K hK => ?_)
      refine gO_ Try.func120 #[.agg #[.slice A0_0 l0_0.length c0_0, .slice A0_1 l0_1.length c0_1], .int .i64 0] (by rfl) rfl rfl qa_ ?_
      with_reducible refine (spec_l03Names.calls k _ _ l0_0 _ _ l0_1 0 t767 _ (cb_ HR0_0) HC0_0.out (cb_ HR0_1) HC0_1.out A2.out).mono ?_
      rintro e w8 ⟨v768, rfl, ho0, hb⟩
      refine ⟨_, rfl, ?_⟩
      have HO769 := rl_ w ho0
      replace BK765 := bb_ BK765 hb
      replace BK766 := bb_ BK766 hb
      replace BK776 := bb_ BK776 hb
      replace HB := b1_ hb
      clear hb ho0
      obtain ⟨Ao9, co9, eo9⟩ := Kd.R_slice HO769.out
      (first | subst eo9 | (injection eo9 with f1_ f2_ f3_; have f4_ := f1_.symm; have f5_ := f3_.symm; clear f1_ f2_ f3_; subst f4_; subst f5_))
      refine hK.out _ _ ⟨cz0_ BK765, cz1_ BK765⟩ (fun hHeld => ?_)
      clear hK K
      refine no_ (some 8) ?_
      refine one_ (i := 3) (N := some 9) (bl_ 6 31) rfl rfl (by kernel_rfl) (by decide) (fun K hK => ?_)
      refine gO_ Try.func119 #[.agg #[.slice A0_0 l0_0.length c0_0, .slice A0_1 l0_1.length c0_1], .slice Ao9 t767.length co9] (by rfl) rfl rfl qa_ ?_
      with_reducible refine (spec_l03Rename.calls k _ _ l0_0 _ _ l0_1 _ _ t767 t770 t773 _ (cb_ HR0_0) HC0_0.out (cb_ HR0_1) HC0_1.out (cr_ HO769) ((Kd.R_reads' HO769.out).2.1) A3.out).mono ?_
      rintro e w10 ⟨v771, v774, rfl, ho0, ho1, hb⟩
      refine ⟨_, rfl, ?_⟩
      have HO772 := Aside0.mk (Kd.R_lower (Kd.R_new' ho0 (Kd.R_lt (rr_ HO769))) (below_size hB_))
      have HO775 := Aside0.mk (Kd.R_lower (Kd.R_new' ho1 (Kd.R_lt (rr_ HO769))) (below_size hB_))
      replace HO769 := Aside0.mk (Kd.R_mono (Kd.R_told (Kd.R_told (Kd.R_old (rr_ HO769) hb) (Kd.R_base ho0)) (Kd.R_base ho1)) (fun _ h_ => h_.1))
      replace BK765 := bb_ BK765 hb
      replace BK766 := bb_ BK766 hb
      replace BK776 := bb_ BK776 hb
      replace HB := b1_ hb
      clear hb ho0 ho1
      refine hK.out _ _ ⟨cz0_ BK765, cz1_ BK765⟩ (fun hHeld => ?_)
      clear hK K
      refine no_ (some 9) ?_
      exact norm_ (by simp only [putAll, Act.put, List.setIfInBounds_toArray, List.set_cons_zero, List.set_cons_succ]) (hCont (.slice Ao9 t767.length co9, v771, v774, gb776) _ ⟨hHeld, (rw_ (Kd.R_mono HO769.out (fun _ hk => ⟨hk.1.2, hk.2⟩))), (rw_ (Kd.R_mono HO772.out (fun _ hk => ⟨hk.2, hk.1⟩))), (rw_ (Kd.R_mono HO775.out (fun _ hk => ⟨hk.2, hk.1⟩))), (kk_ BK765), (kk_ BK766), (kk_ BK776), GW776.out, GE776.out, NB765_776.out, NB776_765.out, NB766_776.out, NB776_766.out, hB_⟩)
  rintro ⟨v768, v771, v774, gb776⟩ w11 ⟨hS_, h0_, h1_, h2_, h3_, h4_, h5_, h6_, h7_, h8_, h9_, h10_, h11_, h12_⟩
  have n0_ : Aside0 (Kd.R (Kd.int .i64) 3 w11 w.heap.size (fun k_ => some k_ ≠ (v771 : Value).ownBlock ∧ some k_ ≠ (v774 : Value).ownBlock) v768 t767) := ⟨h0_⟩
  have n1_ : Aside0 (Kd.R (Kd.int .i64) 3 w11 w.heap.size (fun k_ => some k_ ≠ (v768 : Value).ownBlock ∧ some k_ ≠ (v774 : Value).ownBlock) v771 t770) := ⟨h1_⟩
  have n2_ : Aside0 (Kd.R (Kd.int .i64) 3 w11 w.heap.size (fun k_ => some k_ ≠ (v768 : Value).ownBlock ∧ some k_ ≠ (v771 : Value).ownBlock) v774 t773) := ⟨h2_⟩
  have n3_ : Aside0 (w11.heap[gb765]? = some (.cells #[.slice A0_0 l0_0.length c0_0, .slice A0_1 l0_1.length c0_1] 25 (0, 0))) := ⟨h3_⟩
  have n4_ : Aside0 (w11.heap[gb766]? = some (.cells #[.slice none 0 0, .slice none 0 0] 25 (0, 0))) := ⟨h4_⟩
  have n5_ : Aside0 (w11.heap[gb776]? = some (.cells #[.slice none 0 0, .slice none 0 0] 25 (0, 0))) := ⟨h5_⟩
  have n6_ : Aside0 (w.heap.size ≤ gb776) := ⟨h6_⟩
  have n7_ : Aside0 (w.heap.size ≤ gb776) := ⟨h7_⟩
  have n8_ : Aside0 (gb765 ≠ gb776) := ⟨h8_⟩
  have n9_ : Aside0 (gb776 ≠ gb765) := ⟨h9_⟩
  have n10_ : Aside0 (gb766 ≠ gb776) := ⟨h10_⟩
  have n11_ : Aside0 (gb776 ≠ gb766) := ⟨h11_⟩
  have n12_ : Aside0 (Below w.heap.size w w11) := ⟨h12_⟩
  clear BK765
  clear BK766
  clear HB
  clear h0_ h1_ h2_ h3_ h4_ h5_ h6_ h7_ h8_ h9_ h10_ h11_ h12_
  have HO769 := n0_
  have HO772 := n1_
  have HO775 := n2_
  have BK765 := n3_
  have BK766 := n4_
  have BK776 := n5_
  have GW776 := n6_
  have GE776 := n7_
  have NB765_776 := n8_
  have NB776_765 := n9_
  have NB766_776 := n10_
  have NB776_766 := n11_
  have HB := n12_
  clear n0_ n1_ n2_ n3_ n4_ n5_ n6_ n7_ n8_ n9_ n10_ n11_ n12_
  have hHeld : w11.cell? ⟨gb765, 0, none⟩ = some (.slice A0_0 l0_0.length c0_0) ∧ w11.cell? ⟨gb765, 1, none⟩ = some (.slice A0_1 l0_1.length c0_1) := hS_
  obtain ⟨Ao12, co12, eo12⟩ := Kd.R_slice HO772.out
  (first | subst eo12 | (injection eo12 with f1_ f2_ f3_; have f4_ := f1_.symm; have f5_ := f3_.symm; clear f1_ f2_ f3_; subst f4_; subst f5_))
  obtain ⟨Ao14, co14, eo14⟩ := Kd.R_slice HO775.out
  (first | subst eo14 | (injection eo14 with f1_ f2_ f3_; have f4_ := f1_.symm; have f5_ := f3_.symm; clear f1_ f2_ f3_; subst f4_; subst f5_))
  refine norm_ (a' := ?_) ?_ ?_
  rotate_left
  · simp only [putAll, Act.put, List.setIfInBounds_toArray, List.set_cons_zero, List.set_cons_succ]
    rfl
  refine one_ (i := 5) (N := none) (bl_ 6 63) rfl rfl (by kernel_rfl) (by decide) (fun K hK => ?_)
  have hs13 : w11.cell? ⟨gb776, 0, none⟩ = some (.slice none 0 0) := cz0_ BK776
  have hfs13 := blk_frozen BK776.out 0
  have hns13_0 := NB765_776.out
  have hns13_1 := NB766_776.out
  have hms13_0 := NB776_765.out
  have hms13_1 := NB776_766.out
  have hs15 : w11.cell? ⟨gb776, 1, none⟩ = some (.slice none 0 0) := cz1_ BK776
  have hfs15 := blk_frozen BK776.out 1
  have hns15_0 := NB765_776.out
  have hns15_1 := NB766_776.out
  have hms15_0 := NB776_765.out
  have hms15_1 := NB776_766.out
  refine skip_ (w1 := ?_) (by rfl) rfl ?_ ?_
  rotate_left
  · go_simp
    rfl
  refine hK.out _ _ ⟨((cell_far (p := ⟨gb776, _, none⟩) NB765_776.out _).trans (((cell_far (p := ⟨gb776, _, none⟩) NB765_776.out _).trans (hHeld.1)))), ((cell_far (p := ⟨gb776, _, none⟩) NB765_776.out _).trans (((cell_far (p := ⟨gb776, _, none⟩) NB765_776.out _).trans (hHeld.2))))⟩ (fun hHeld => ?_)
  clear hK K
  refine done_ (by kernel_rfl) ?_
  try go_wp2
  go_loopg [4] k (fun kq v4 w' => ∃ (x4_1 : Int) (x777000_1 : List Int) (x777001_1 : List Int) (u777000 : Value) (u777001 : Value), v4 = .int .i64 x4_1 ∧ Aside0 (spec_l03Canon.l0 kq x4_1 l0_0 l0_1 x777000_1 x777001_1 = some (r1, r2)) ∧ Aside0 (kq ≤ k) ∧ Aside0 (Kd.R (Kd.int .i64) 3 w' w.heap.size (fun k_ => some k_ ≠ (u777001 : Value).ownBlock) u777000 x777000_1) ∧ Aside0 (Kd.R (Kd.int .i64) 3 w' w.heap.size (fun k_ => some k_ ≠ (u777000 : Value).ownBlock) u777001 x777001_1) ∧ Aside0 (w'.heap[gb765]? = some (.cells #[(.slice A0_0 l0_0.length c0_0), (.slice A0_1 l0_1.length c0_1)] 25 (0, 0))) ∧ Aside0 (w'.heap[gb766]? = some (.cells #[(.slice none 0 0), (.slice none 0 0)] 25 (0, 0))) ∧ Aside0 (w'.heap[gb776]? = some (.cells #[u777000, u777001] 25 (0, 0))) ∧ Aside0 (Below w.heap.size w w'))
  case atStart => exact ⟨(1), (t770), (t773), (.slice Ao12 t770.length co12), (.slice Ao14 t773.length co14), qc_, H', ⟨Nat.le_refl _⟩, ⟨(rw_ (Kd.R_mono (fa_ HO772 BK776) (fun _ hk => hk.2)))⟩, ⟨(rw_ (Kd.R_mono (fa_ HO775 BK776) (fun _ hk => hk.2)))⟩, ⟨by (with_reducible repeat (first | refine blk_drewN ?_ _ | refine blk_drew ?_ | refine blk_alloc ?_ _)); refine blk_far ?_ NB765_776.out _; (with_reducible repeat (first | refine blk_drewN ?_ _ | refine blk_drew ?_ | refine blk_alloc ?_ _)); refine blk_far ?_ NB765_776.out _; (with_reducible repeat (first | refine blk_drewN ?_ _ | refine blk_drew ?_ | refine blk_alloc ?_ _)); exact BK765.out⟩, ⟨by (with_reducible repeat (first | refine blk_drewN ?_ _ | refine blk_drew ?_ | refine blk_alloc ?_ _)); refine blk_far ?_ NB766_776.out _; (with_reducible repeat (first | refine blk_drewN ?_ _ | refine blk_drew ?_ | refine blk_alloc ?_ _)); refine blk_far ?_ NB766_776.out _; (with_reducible repeat (first | refine blk_drewN ?_ _ | refine blk_drew ?_ | refine blk_alloc ?_ _)); exact BK766.out⟩, ⟨qp_⟩, ⟨hB_⟩⟩
  case round =>
    clear H'
    obtain ⟨x4_1, x777000_1, x777001_1, u777000, u777001, rfl, HA, HK1, HO_777000, HO_777001, BK765, BK766, BK776, HB⟩ := hrel
    cases gk with
    | zero => exact absurd HA.out (by simp [spec_l03Canon.l0])
    | succ k1 =>
      have H := HA.out
      clear HA
      simp only [spec_l03Canon.l0] at H
      by_cases c16 : x4_1 < (l0_0.length : Int)
      · rw [if_pos c16] at H
        have c16b0 := decide_eq_true c16
        clear c16
        obtain ⟨t777, A17, H⟩ := bi_ H
        obtain ⟨⟨t780, t783⟩, A18, H⟩ := bi_ H
        try dsimp only at H
        obtain ⟨t787, A19, H⟩ := bi_ H
        by_cases c20 : t787 = true
        · subst c20
          rw [if_pos rfl] at H
          have H' := Aside0.mk H
          clear H
          have hnb21 := NB765_766.out
          have hnc21 := NB766_765.out
          have hnb22 := NB765_776.out
          have hnc22 := NB776_765.out
          obtain ⟨hcz23_0, hcz23_1, hfz23_0, hfz23_1⟩ := c2_ BK765
          try go_wp2
          replace HO_777000 := Aside0.mk (Kd.R_drew HO_777000.out)
          replace HO_777001 := Aside0.mk (Kd.R_drew HO_777001.out)
          replace BK765 := Aside0.mk (blk_drew BK765.out)
          replace BK766 := Aside0.mk (blk_drew BK766.out)
          replace BK776 := Aside0.mk (blk_drew BK776.out)
          replace HB := Aside0.mk (below_drew1 HB.out)
          refine start_ (n := 7) (S := fun w' => w'.cell? ⟨gb765, 0, none⟩ = some (.slice A0_0 l0_0.length c0_0) ∧ w'.cell? ⟨gb765, 1, none⟩ = some (.slice A0_1 l0_1.length c0_1)) (ds := []) (bl_ 7 0) (by kernel_rfl) rfl (by kernel_rfl) ⟨cz0_ BK765, cz1_ BK765⟩ (fun hHeld => ?_)
          generalize wr.drew = w24 at HO_777000 HO_777001 BK765 BK766 BK776 HB hHeld ⊢
          refine pure_ (i := 2) (N := some 19) (v := ?_) (a' := ?_) (bl_ 7 4) rfl rfl (by kernel_rfl) (fun _ _ _ h => h) (Or.inl ⟨by rfl, ?_⟩) ?_ ?_
          rotate_left
          · intro w'
            go_simp
            with_reducible rfl
          rotate_left
          · simp only [Act.put, List.setIfInBounds_toArray, List.set_cons_zero, List.set_cons_succ, i64_w, i32_w]
            rfl
          refine take_ (i := 0) (N := some 17) (v := ?_) (a' := ?_) (bl_ 7 5) rfl rfl (by kernel_rfl) (fun _ _ _ h => h) (Or.inl ⟨by rfl, ?_⟩) hHeld ?_ ?_
          rotate_left
          · rintro w' ⟨s0, s1⟩
            go_simp
            with_reducible rfl
          rotate_left
          · simp only [Act.put, List.setIfInBounds_toArray, List.set_cons_zero, List.set_cons_succ, i64_w, i32_w]
            rfl
          refine take_ (i := 1) (N := some 18) (v := ?_) (a' := ?_) (bl_ 7 7) rfl rfl (by kernel_rfl) (fun _ _ _ h => h) (Or.inl ⟨by rfl, ?_⟩) hHeld ?_ ?_
          rotate_left
          · rintro w' ⟨s0, s1⟩
            go_simp
            with_reducible rfl
          rotate_left
          · simp only [Act.put, List.setIfInBounds_toArray, List.set_cons_zero, List.set_cons_succ, i64_w, i32_w]
            rfl
          refine join_ (σ := Value × Value × Value × Nat) 1 (bl_ 7 63) (fun s_ => [(20, s_.1), (21, .agg #[s_.2.1, s_.2.2.1]), (5, .pointer (some ⟨s_.2.2.2, 0, none⟩))]) (fun s_ w' => (w'.cell? ⟨gb765, 0, none⟩ = some (.slice A0_0 l0_0.length c0_0) ∧ w'.cell? ⟨gb765, 1, none⟩ = some (.slice A0_1 l0_1.length c0_1)) ∧ (Kd.R (Kd.int .i64) 3 w' w.heap.size (fun k_ => some k_ ≠ (s_.2.1 : Value).ownBlock ∧ some k_ ≠ (s_.2.2.1 : Value).ownBlock ∧ some k_ ≠ (u777000 : Value).ownBlock ∧ some k_ ≠ (u777001 : Value).ownBlock) s_.1 t777) ∧ (Kd.R (Kd.int .i64) 3 w' w.heap.size (fun k_ => some k_ ≠ (s_.1 : Value).ownBlock ∧ some k_ ≠ (s_.2.2.1 : Value).ownBlock ∧ some k_ ≠ (u777000 : Value).ownBlock ∧ some k_ ≠ (u777001 : Value).ownBlock) s_.2.1 t780) ∧ (Kd.R (Kd.int .i64) 3 w' w.heap.size (fun k_ => some k_ ≠ (s_.1 : Value).ownBlock ∧ some k_ ≠ (s_.2.1 : Value).ownBlock ∧ some k_ ≠ (u777000 : Value).ownBlock ∧ some k_ ≠ (u777001 : Value).ownBlock) s_.2.2.1 t783) ∧ (Kd.R (Kd.int .i64) 3 w' w.heap.size (fun k_ => some k_ ≠ (s_.1 : Value).ownBlock ∧ some k_ ≠ (s_.2.1 : Value).ownBlock ∧ some k_ ≠ (s_.2.2.1 : Value).ownBlock ∧ some k_ ≠ (u777001 : Value).ownBlock) u777000 x777000_1) ∧ (Kd.R (Kd.int .i64) 3 w' w.heap.size (fun k_ => some k_ ≠ (s_.1 : Value).ownBlock ∧ some k_ ≠ (s_.2.1 : Value).ownBlock ∧ some k_ ≠ (s_.2.2.1 : Value).ownBlock ∧ some k_ ≠ (u777000 : Value).ownBlock) u777001 x777001_1) ∧ (w'.heap[gb765]? = some (.cells #[.slice A0_0 l0_0.length c0_0, .slice A0_1 l0_1.length c0_1] 25 (0, 0))) ∧ (w'.heap[gb766]? = some (.cells #[.slice none 0 0, .slice none 0 0] 25 (0, 0))) ∧ (w'.heap[gb776]? = some (.cells #[u777000, u777001] 25 (0, 0))) ∧ (w'.heap[s_.2.2.2]? = some (.cells #[.slice none 0 0, .slice none 0 0] 25 (0, 0))) ∧ (w.heap.size ≤ s_.2.2.2) ∧ (w.heap.size ≤ s_.2.2.2) ∧ (gb765 ≠ s_.2.2.2) ∧ (s_.2.2.2 ≠ gb765) ∧ (gb766 ≠ s_.2.2.2) ∧ (s_.2.2.2 ≠ gb766) ∧ (gb776 ≠ s_.2.2.2) ∧ (s_.2.2.2 ≠ gb776) ∧ (Below w.heap.size w w')) ?_ ?_
          rotate_left
          · intro hCont
            refine two_ (i := 3) (j := 5) (Ni := some 20) (Nj := some 5) (bl_ 7 15) (bl_ 7 39) rfl rfl rfl rfl (by kernel_rfl) (by decide) (by decide) (fun K hK => ?_) (fun K hK => ?_)
            · skip
              refine gO_ Try.func120 #[.agg #[.slice A0_0 l0_0.length c0_0, .slice A0_1 l0_1.length c0_1], .int .i64 x4_1] (by rfl) rfl rfl qa_ ?_
              with_reducible refine (spec_l03Names.calls k1 _ _ l0_0 _ _ l0_1 x4_1 t777 _ (cb_ HR0_0) HC0_0.out (cb_ HR0_1) HC0_1.out A17.out).mono ?_
              rintro e w25 ⟨v778, rfl, ho0, hb⟩
              refine ⟨_, rfl, ?_⟩
              have HO779 := Aside0.mk (Kd.R_lower (Kd.R_new' (Kd.R_new' ho0 (Kd.R_lt (rr_ HO_777000))) (Kd.R_lt (rr_ HO_777001))) (below_size hB_))
              replace HO_777000 := Aside0.mk (Kd.R_elder' (rr_ HO_777000) (Kd.R_base ho0) hb)
              replace HO_777001 := Aside0.mk (Kd.R_elder' (rr_ HO_777001) (Kd.R_base ho0) hb)
              replace BK765 := bb_ BK765 hb
              replace BK766 := bb_ BK766 hb
              replace BK776 := bb_ BK776 hb
              replace HB := b1_ hb
              clear hb ho0
              obtain ⟨Ao26, co26, eo26⟩ := Kd.R_slice HO779.out
              (first | subst eo26 | (injection eo26 with f1_ f2_ f3_; have f4_ := f1_.symm; have f5_ := f3_.symm; clear f1_ f2_ f3_; subst f4_; subst f5_))
              refine hK.out _ _ ⟨cz0_ BK765, cz1_ BK765⟩ (fun hHeld => ?_)
              clear hK K
              refine no_ (some 20) ?_
              refine two_ (i := 4) (j := 5) (Ni := some 21) (Nj := some 5) (bl_ 7 31) (bl_ 7 47) rfl rfl rfl rfl (by kernel_rfl) (by decide) (by decide) (fun K hK => ?_) (fun K hK => ?_)
              · skip
                refine gO_ Try.func119 #[.agg #[.slice A0_0 l0_0.length c0_0, .slice A0_1 l0_1.length c0_1], .slice Ao26 t777.length co26] (by rfl) rfl rfl qa_ ?_
                with_reducible refine (spec_l03Rename.calls k1 _ _ l0_0 _ _ l0_1 _ _ t777 t780 t783 _ (cb_ HR0_0) HC0_0.out (cb_ HR0_1) HC0_1.out (cr_ HO779) ((Kd.R_reads' HO779.out).2.1) A18.out).mono ?_
                rintro e w27 ⟨v781, v784, rfl, ho0, ho1, hb⟩
                refine ⟨_, rfl, ?_⟩
                have HO782 := Aside0.mk (Kd.R_lower (Kd.R_new' (Kd.R_new' (Kd.R_new' ho0 (Kd.R_lt (rr_ HO_777000))) (Kd.R_lt (rr_ HO_777001))) (Kd.R_lt (rr_ HO779))) (below_size hB_))
                have HO785 := Aside0.mk (Kd.R_lower (Kd.R_new' (Kd.R_new' (Kd.R_new' ho1 (Kd.R_lt (rr_ HO_777000))) (Kd.R_lt (rr_ HO_777001))) (Kd.R_lt (rr_ HO779))) (below_size hB_))
                replace HO_777000 := Aside0.mk (Kd.R_mono (Kd.R_told (Kd.R_told (Kd.R_old (rr_ HO_777000) hb) (Kd.R_base ho0)) (Kd.R_base ho1)) (fun _ h_ => h_.1))
                replace HO_777001 := Aside0.mk (Kd.R_mono (Kd.R_told (Kd.R_told (Kd.R_old (rr_ HO_777001) hb) (Kd.R_base ho0)) (Kd.R_base ho1)) (fun _ h_ => h_.1))
                replace HO779 := Aside0.mk (Kd.R_mono (Kd.R_told (Kd.R_told (Kd.R_old (rr_ HO779) hb) (Kd.R_base ho0)) (Kd.R_base ho1)) (fun _ h_ => h_.1))
                replace BK765 := bb_ BK765 hb
                replace BK766 := bb_ BK766 hb
                replace BK776 := bb_ BK776 hb
                replace HB := b1_ hb
                clear hb ho0 ho1
                refine hK.out _ _ ⟨cz0_ BK765, cz1_ BK765⟩ (fun hHeld => ?_)
                clear hK K
                refine no_ (some 21) ?_
                refine one_ (i := 5) (N := some 5) (bl_ 7 63) rfl rfl (by kernel_rfl) (by decide) (fun K hK => ?_)
                refine box_step ?hg (N := 5) ?hd (cs := #[.slice none 0 0, .slice none 0 0]) (t := 25) ?hr ?_; (case hd => rfl); (case hg => rfl); (case hr => first | (go_simp; done) | (go_simp; rfl))
                intro gb786 hg w28 hbox hb
                replace HO_777000 := rb_ HO_777000 hb
                replace HO_777001 := rb_ HO_777001 hb
                replace HO779 := rb_ HO779 hb
                replace HO782 := rb_ HO782 hb
                replace HO785 := rb_ HO785 hb
                have BK786 := Aside0.mk hbox
                have GW786 := gw_ w hg
                have GE786 := GW786
                replace HB := b1_ hb
                have NB765_786 := gN_ BK765 hg
                have NB786_765 := gP_ BK765 hg
                replace BK765 := bb_ BK765 hb
                have NB766_786 := gN_ BK766 hg
                have NB786_766 := gP_ BK766 hg
                replace BK766 := bb_ BK766 hb
                have NB776_786 := gN_ BK776 hg
                have NB786_776 := gP_ BK776 hg
                replace BK776 := bb_ BK776 hb
                clear hb hbox hg
                refine hK.out _ _ ⟨cz0_ BK765, cz1_ BK765⟩ (fun hHeld => ?_)
                clear hK K
                refine no_ (some 5) ?_
                exact norm_ (by simp only [putAll, Act.put, List.setIfInBounds_toArray, List.set_cons_zero, List.set_cons_succ]) (hCont (.slice Ao26 t777.length co26, v781, v784, gb786) _ ⟨hHeld, (rw_ (Kd.R_mono HO779.out (fun _ hk => ⟨hk.1.2, ⟨hk.2, ⟨hk.1.1.1.2, hk.1.1.2⟩⟩⟩))), (rw_ (Kd.R_mono HO782.out (fun _ hk => ⟨hk.2, ⟨hk.1.1.1, ⟨hk.1.1.2, hk.1.2⟩⟩⟩))), (rw_ (Kd.R_mono HO785.out (fun _ hk => ⟨hk.2, ⟨hk.1.1.1, ⟨hk.1.1.2, hk.1.2⟩⟩⟩))), (rw_ (Kd.R_mono HO_777000.out (fun _ hk => ⟨hk.1.1.2, ⟨hk.1.2, ⟨hk.2, hk.1.1.1⟩⟩⟩))), (rw_ (Kd.R_mono HO_777001.out (fun _ hk => ⟨hk.1.1.2, ⟨hk.1.2, ⟨hk.2, hk.1.1.1⟩⟩⟩))), (kk_ BK765), (kk_ BK766), (kk_ BK776), (kk_ BK786), GW786.out, GE786.out, NB765_786.out, NB786_765.out, NB766_786.out, NB786_766.out, NB776_786.out, NB786_776.out, hB_⟩)
              · skip
                refine box_step ?hg (N := 5) ?hd (cs := #[.slice none 0 0, .slice none 0 0]) (t := 25) ?hr ?_; (case hd => rfl); (case hg => rfl); (case hr => first | (go_simp; done) | (go_simp; rfl))
                intro gb786 hg w26 hbox hb
                replace HO_777000 := rb_ HO_777000 hb
                replace HO_777001 := rb_ HO_777001 hb
                replace HO779 := rb_ HO779 hb
                have BK786 := Aside0.mk hbox
                have GW786 := gw_ w hg
                have GE786 := GW786
                replace HB := b1_ hb
                have NB765_786 := gN_ BK765 hg
                have NB786_765 := gP_ BK765 hg
                replace BK765 := bb_ BK765 hb
                have NB766_786 := gN_ BK766 hg
                have NB786_766 := gP_ BK766 hg
                replace BK766 := bb_ BK766 hb
                have NB776_786 := gN_ BK776 hg
                have NB786_776 := gP_ BK776 hg
                replace BK776 := bb_ BK776 hb
                clear hb hbox hg
                obtain ⟨Ao27, co27, eo27⟩ := Kd.R_slice HO779.out
                (first | subst eo27 | (injection eo27 with f1_ f2_ f3_; have f4_ := f1_.symm; have f5_ := f3_.symm; clear f1_ f2_ f3_; subst f4_; subst f5_))
                refine hK.out _ _ ⟨cz0_ BK765, cz1_ BK765⟩ (fun hHeld => ?_)
                clear hK K
                refine no_ (some 5) ?_
                refine one_ (i := 4) (N := some 21) (bl_ 7 63) rfl rfl (by kernel_rfl) (by decide) (fun K hK => ?_)
                refine gO_ Try.func119 #[.agg #[.slice A0_0 l0_0.length c0_0, .slice A0_1 l0_1.length c0_1], .slice Ao27 t777.length co27] (by rfl) rfl rfl qa_ ?_
                with_reducible refine (spec_l03Rename.calls k1 _ _ l0_0 _ _ l0_1 _ _ t777 t780 t783 _ (cb_ HR0_0) HC0_0.out (cb_ HR0_1) HC0_1.out (cr_ HO779) ((Kd.R_reads' HO779.out).2.1) A18.out).mono ?_
                rintro e w28 ⟨v781, v784, rfl, ho0, ho1, hb⟩
                refine ⟨_, rfl, ?_⟩
                have HO782 := Aside0.mk (Kd.R_lower (Kd.R_new' (Kd.R_new' (Kd.R_new' ho0 (Kd.R_lt (rr_ HO_777000))) (Kd.R_lt (rr_ HO_777001))) (Kd.R_lt (rr_ HO779))) (below_size hB_))
                have HO785 := Aside0.mk (Kd.R_lower (Kd.R_new' (Kd.R_new' (Kd.R_new' ho1 (Kd.R_lt (rr_ HO_777000))) (Kd.R_lt (rr_ HO_777001))) (Kd.R_lt (rr_ HO779))) (below_size hB_))
                replace HO_777000 := Aside0.mk (Kd.R_mono (Kd.R_told (Kd.R_told (Kd.R_old (rr_ HO_777000) hb) (Kd.R_base ho0)) (Kd.R_base ho1)) (fun _ h_ => h_.1))
                replace HO_777001 := Aside0.mk (Kd.R_mono (Kd.R_told (Kd.R_told (Kd.R_old (rr_ HO_777001) hb) (Kd.R_base ho0)) (Kd.R_base ho1)) (fun _ h_ => h_.1))
                replace HO779 := Aside0.mk (Kd.R_mono (Kd.R_told (Kd.R_told (Kd.R_old (rr_ HO779) hb) (Kd.R_base ho0)) (Kd.R_base ho1)) (fun _ h_ => h_.1))
                replace BK765 := bb_ BK765 hb
                replace BK766 := bb_ BK766 hb
                replace BK776 := bb_ BK776 hb
                replace BK786 := bb_ BK786 hb
                replace HB := b1_ hb
                clear hb ho0 ho1
                refine hK.out _ _ ⟨cz0_ BK765, cz1_ BK765⟩ (fun hHeld => ?_)
                clear hK K
                refine no_ (some 21) ?_
                exact norm_ (by simp only [putAll, Act.put, List.setIfInBounds_toArray, List.set_cons_zero, List.set_cons_succ]) (hCont (.slice Ao27 t777.length co27, v781, v784, gb786) _ ⟨hHeld, (rw_ (Kd.R_mono HO779.out (fun _ hk => ⟨hk.1.2, ⟨hk.2, ⟨hk.1.1.1.2, hk.1.1.2⟩⟩⟩))), (rw_ (Kd.R_mono HO782.out (fun _ hk => ⟨hk.2, ⟨hk.1.1.1, ⟨hk.1.1.2, hk.1.2⟩⟩⟩))), (rw_ (Kd.R_mono HO785.out (fun _ hk => ⟨hk.2, ⟨hk.1.1.1, ⟨hk.1.1.2, hk.1.2⟩⟩⟩))), (rw_ (Kd.R_mono HO_777000.out (fun _ hk => ⟨hk.1.1.2, ⟨hk.1.2, ⟨hk.2, hk.1.1.1⟩⟩⟩))), (rw_ (Kd.R_mono HO_777001.out (fun _ hk => ⟨hk.1.1.2, ⟨hk.1.2, ⟨hk.2, hk.1.1.1⟩⟩⟩))), (kk_ BK765), (kk_ BK766), (kk_ BK776), (kk_ BK786), GW786.out, GE786.out, NB765_786.out, NB786_765.out, NB766_786.out, NB786_766.out, NB776_786.out, NB786_776.out, hB_⟩)
            · skip
              refine box_step ?hg (N := 5) ?hd (cs := #[.slice none 0 0, .slice none 0 0]) (t := 25) ?hr ?_; (case hd => rfl); (case hg => rfl); (case hr => first | (go_simp; done) | (go_simp; rfl))
              intro gb786 hg w25 hbox hb
              replace HO_777000 := rb_ HO_777000 hb
              replace HO_777001 := rb_ HO_777001 hb
              have BK786 := Aside0.mk hbox
              have GW786 := gw_ w hg
              have GE786 := GW786
              replace HB := b1_ hb
              have NB765_786 := gN_ BK765 hg
              have NB786_765 := gP_ BK765 hg
              replace BK765 := bb_ BK765 hb
              have NB766_786 := gN_ BK766 hg
              have NB786_766 := gP_ BK766 hg
              replace BK766 := bb_ BK766 hb
              have NB776_786 := gN_ BK776 hg
              have NB786_776 := gP_ BK776 hg
              replace BK776 := bb_ BK776 hb
              clear hb hbox hg
              refine hK.out _ _ ⟨cz0_ BK765, cz1_ BK765⟩ (fun hHeld => ?_)
              clear hK K
              refine no_ (some 5) ?_
              refine one_ (i := 3) (N := some 20) (bl_ 7 47) rfl rfl (by kernel_rfl) (by decide) (fun K hK => ?_)
              refine gO_ Try.func120 #[.agg #[.slice A0_0 l0_0.length c0_0, .slice A0_1 l0_1.length c0_1], .int .i64 x4_1] (by rfl) rfl rfl qa_ ?_
              with_reducible refine (spec_l03Names.calls k1 _ _ l0_0 _ _ l0_1 x4_1 t777 _ (cb_ HR0_0) HC0_0.out (cb_ HR0_1) HC0_1.out A17.out).mono ?_
              rintro e w26 ⟨v778, rfl, ho0, hb⟩
              refine ⟨_, rfl, ?_⟩
              have HO779 := Aside0.mk (Kd.R_lower (Kd.R_new' (Kd.R_new' ho0 (Kd.R_lt (rr_ HO_777000))) (Kd.R_lt (rr_ HO_777001))) (below_size hB_))
              replace HO_777000 := Aside0.mk (Kd.R_elder' (rr_ HO_777000) (Kd.R_base ho0) hb)
              replace HO_777001 := Aside0.mk (Kd.R_elder' (rr_ HO_777001) (Kd.R_base ho0) hb)
              replace BK765 := bb_ BK765 hb
              replace BK766 := bb_ BK766 hb
              replace BK776 := bb_ BK776 hb
              replace BK786 := bb_ BK786 hb
              replace HB := b1_ hb
              clear hb ho0
              obtain ⟨Ao27, co27, eo27⟩ := Kd.R_slice HO779.out
              (first | subst eo27 | (injection eo27 with f1_ f2_ f3_; have f4_ := f1_.symm; have f5_ := f3_.symm; clear f1_ f2_ f3_; subst f4_; subst f5_))
              refine hK.out _ _ ⟨cz0_ BK765, cz1_ BK765⟩ (fun hHeld => ?_)
              clear hK K
              refine no_ (some 20) ?_
              refine one_ (i := 4) (N := some 21) (bl_ 7 63) rfl rfl (by kernel_rfl) (by decide) (fun K hK => ?_)
              refine gO_ Try.func119 #[.agg #[.slice A0_0 l0_0.length c0_0, .slice A0_1 l0_1.length c0_1], .slice Ao27 t777.length co27] (by rfl) rfl rfl qa_ ?_
              with_reducible refine (spec_l03Rename.calls k1 _ _ l0_0 _ _ l0_1 _ _ t777 t780 t783 _ (cb_ HR0_0) HC0_0.out (cb_ HR0_1) HC0_1.out (cr_ HO779) ((Kd.R_reads' HO779.out).2.1) A18.out).mono ?_
              rintro e w28 ⟨v781, v784, rfl, ho0, ho1, hb⟩
              refine ⟨_, rfl, ?_⟩
              have HO782 := Aside0.mk (Kd.R_lower (Kd.R_new' (Kd.R_new' (Kd.R_new' ho0 (Kd.R_lt (rr_ HO_777000))) (Kd.R_lt (rr_ HO_777001))) (Kd.R_lt (rr_ HO779))) (below_size hB_))
              have HO785 := Aside0.mk (Kd.R_lower (Kd.R_new' (Kd.R_new' (Kd.R_new' ho1 (Kd.R_lt (rr_ HO_777000))) (Kd.R_lt (rr_ HO_777001))) (Kd.R_lt (rr_ HO779))) (below_size hB_))
              replace HO_777000 := Aside0.mk (Kd.R_mono (Kd.R_told (Kd.R_told (Kd.R_old (rr_ HO_777000) hb) (Kd.R_base ho0)) (Kd.R_base ho1)) (fun _ h_ => h_.1))
              replace HO_777001 := Aside0.mk (Kd.R_mono (Kd.R_told (Kd.R_told (Kd.R_old (rr_ HO_777001) hb) (Kd.R_base ho0)) (Kd.R_base ho1)) (fun _ h_ => h_.1))
              replace HO779 := Aside0.mk (Kd.R_mono (Kd.R_told (Kd.R_told (Kd.R_old (rr_ HO779) hb) (Kd.R_base ho0)) (Kd.R_base ho1)) (fun _ h_ => h_.1))
              replace BK765 := bb_ BK765 hb
              replace BK766 := bb_ BK766 hb
              replace BK776 := bb_ BK776 hb
              replace BK786 := bb_ BK786 hb
              replace HB := b1_ hb
              clear hb ho0 ho1
              refine hK.out _ _ ⟨cz0_ BK765, cz1_ BK765⟩ (fun hHeld => ?_)
              clear hK K
              refine no_ (some 21) ?_
              exact norm_ (by simp only [putAll, Act.put, List.setIfInBounds_toArray, List.set_cons_zero, List.set_cons_succ]) (hCont (.slice Ao27 t777.length co27, v781, v784, gb786) _ ⟨hHeld, (rw_ (Kd.R_mono HO779.out (fun _ hk => ⟨hk.1.2, ⟨hk.2, ⟨hk.1.1.1.2, hk.1.1.2⟩⟩⟩))), (rw_ (Kd.R_mono HO782.out (fun _ hk => ⟨hk.2, ⟨hk.1.1.1, ⟨hk.1.1.2, hk.1.2⟩⟩⟩))), (rw_ (Kd.R_mono HO785.out (fun _ hk => ⟨hk.2, ⟨hk.1.1.1, ⟨hk.1.1.2, hk.1.2⟩⟩⟩))), (rw_ (Kd.R_mono HO_777000.out (fun _ hk => ⟨hk.1.1.2, ⟨hk.1.2, ⟨hk.2, hk.1.1.1⟩⟩⟩))), (rw_ (Kd.R_mono HO_777001.out (fun _ hk => ⟨hk.1.1.2, ⟨hk.1.2, ⟨hk.2, hk.1.1.1⟩⟩⟩))), (kk_ BK765), (kk_ BK766), (kk_ BK776), (kk_ BK786), GW786.out, GE786.out, NB765_786.out, NB786_765.out, NB766_786.out, NB786_766.out, NB776_786.out, NB786_776.out, hB_⟩)
          rintro ⟨v778, v781, v784, gb786⟩ w29 ⟨hS_, h0_, h1_, h2_, h3_, h4_, h5_, h6_, h7_, h8_, h9_, h10_, h11_, h12_, h13_, h14_, h15_, h16_, h17_⟩
          have n0_ : Aside0 (Kd.R (Kd.int .i64) 3 w29 w.heap.size (fun k_ => some k_ ≠ (v781 : Value).ownBlock ∧ some k_ ≠ (v784 : Value).ownBlock ∧ some k_ ≠ (u777000 : Value).ownBlock ∧ some k_ ≠ (u777001 : Value).ownBlock) v778 t777) := ⟨h0_⟩
          have n1_ : Aside0 (Kd.R (Kd.int .i64) 3 w29 w.heap.size (fun k_ => some k_ ≠ (v778 : Value).ownBlock ∧ some k_ ≠ (v784 : Value).ownBlock ∧ some k_ ≠ (u777000 : Value).ownBlock ∧ some k_ ≠ (u777001 : Value).ownBlock) v781 t780) := ⟨h1_⟩
          have n2_ : Aside0 (Kd.R (Kd.int .i64) 3 w29 w.heap.size (fun k_ => some k_ ≠ (v778 : Value).ownBlock ∧ some k_ ≠ (v781 : Value).ownBlock ∧ some k_ ≠ (u777000 : Value).ownBlock ∧ some k_ ≠ (u777001 : Value).ownBlock) v784 t783) := ⟨h2_⟩
          have n3_ : Aside0 (Kd.R (Kd.int .i64) 3 w29 w.heap.size (fun k_ => some k_ ≠ (v778 : Value).ownBlock ∧ some k_ ≠ (v781 : Value).ownBlock ∧ some k_ ≠ (v784 : Value).ownBlock ∧ some k_ ≠ (u777001 : Value).ownBlock) u777000 x777000_1) := ⟨h3_⟩
          have n4_ : Aside0 (Kd.R (Kd.int .i64) 3 w29 w.heap.size (fun k_ => some k_ ≠ (v778 : Value).ownBlock ∧ some k_ ≠ (v781 : Value).ownBlock ∧ some k_ ≠ (v784 : Value).ownBlock ∧ some k_ ≠ (u777000 : Value).ownBlock) u777001 x777001_1) := ⟨h4_⟩
          have n5_ : Aside0 (w29.heap[gb765]? = some (.cells #[.slice A0_0 l0_0.length c0_0, .slice A0_1 l0_1.length c0_1] 25 (0, 0))) := ⟨h5_⟩
          have n6_ : Aside0 (w29.heap[gb766]? = some (.cells #[.slice none 0 0, .slice none 0 0] 25 (0, 0))) := ⟨h6_⟩
          have n7_ : Aside0 (w29.heap[gb776]? = some (.cells #[u777000, u777001] 25 (0, 0))) := ⟨h7_⟩
          have n8_ : Aside0 (w29.heap[gb786]? = some (.cells #[.slice none 0 0, .slice none 0 0] 25 (0, 0))) := ⟨h8_⟩
          have n9_ : Aside0 (w.heap.size ≤ gb786) := ⟨h9_⟩
          have n10_ : Aside0 (w.heap.size ≤ gb786) := ⟨h10_⟩
          have n11_ : Aside0 (gb765 ≠ gb786) := ⟨h11_⟩
          have n12_ : Aside0 (gb786 ≠ gb765) := ⟨h12_⟩
          have n13_ : Aside0 (gb766 ≠ gb786) := ⟨h13_⟩
          have n14_ : Aside0 (gb786 ≠ gb766) := ⟨h14_⟩
          have n15_ : Aside0 (gb776 ≠ gb786) := ⟨h15_⟩
          have n16_ : Aside0 (gb786 ≠ gb776) := ⟨h16_⟩
          have n17_ : Aside0 (Below w.heap.size w w29) := ⟨h17_⟩
          clear HO_777000
          clear HO_777001
          clear BK765
          clear BK766
          clear BK776
          clear HB
          clear h0_ h1_ h2_ h3_ h4_ h5_ h6_ h7_ h8_ h9_ h10_ h11_ h12_ h13_ h14_ h15_ h16_ h17_
          have HO779 := n0_
          have HO782 := n1_
          have HO785 := n2_
          have HO_777000 := n3_
          have HO_777001 := n4_
          have BK765 := n5_
          have BK766 := n6_
          have BK776 := n7_
          have BK786 := n8_
          have GW786 := n9_
          have GE786 := n10_
          have NB765_786 := n11_
          have NB786_765 := n12_
          have NB766_786 := n13_
          have NB786_766 := n14_
          have NB776_786 := n15_
          have NB786_776 := n16_
          have HB := n17_
          clear n0_ n1_ n2_ n3_ n4_ n5_ n6_ n7_ n8_ n9_ n10_ n11_ n12_ n13_ n14_ n15_ n16_ n17_
          have hHeld : w29.cell? ⟨gb765, 0, none⟩ = some (.slice A0_0 l0_0.length c0_0) ∧ w29.cell? ⟨gb765, 1, none⟩ = some (.slice A0_1 l0_1.length c0_1) := hS_
          obtain ⟨Ao30, co30, eo30⟩ := Kd.R_slice HO782.out
          (first | subst eo30 | (injection eo30 with f1_ f2_ f3_; have f4_ := f1_.symm; have f5_ := f3_.symm; clear f1_ f2_ f3_; subst f4_; subst f5_))
          obtain ⟨Ao32, co32, eo32⟩ := Kd.R_slice HO785.out
          (first | subst eo32 | (injection eo32 with f1_ f2_ f3_; have f4_ := f1_.symm; have f5_ := f3_.symm; clear f1_ f2_ f3_; subst f4_; subst f5_))
          refine norm_ (a' := ?_) ?_ ?_
          rotate_left
          · simp only [putAll, Act.put, List.setIfInBounds_toArray, List.set_cons_zero, List.set_cons_succ]
            rfl
          refine one_ (i := 6) (N := none) (bl_ 7 127) rfl rfl (by kernel_rfl) (by decide) (fun K hK => ?_)
          have hs31 : w29.cell? ⟨gb786, 0, none⟩ = some (.slice none 0 0) := cz0_ BK786
          have hfs31 := blk_frozen BK786.out 0
          have hns31_0 := NB765_786.out
          have hns31_1 := NB766_786.out
          have hns31_2 := NB776_786.out
          have hms31_0 := NB786_765.out
          have hms31_1 := NB786_766.out
          have hms31_2 := NB786_776.out
          have hs33 : w29.cell? ⟨gb786, 1, none⟩ = some (.slice none 0 0) := cz1_ BK786
          have hfs33 := blk_frozen BK786.out 1
          have hns33_0 := NB765_786.out
          have hns33_1 := NB766_786.out
          have hns33_2 := NB776_786.out
          have hms33_0 := NB786_765.out
          have hms33_1 := NB786_766.out
          have hms33_2 := NB786_776.out
          refine skip_ (w1 := ?_) (by rfl) rfl ?_ ?_
          rotate_left
          · go_simp
            rfl
          refine hK.out _ _ ⟨((cell_far (p := ⟨gb786, _, none⟩) NB765_786.out _).trans (((cell_far (p := ⟨gb786, _, none⟩) NB765_786.out _).trans (hHeld.1)))), ((cell_far (p := ⟨gb786, _, none⟩) NB765_786.out _).trans (((cell_far (p := ⟨gb786, _, none⟩) NB765_786.out _).trans (hHeld.2))))⟩ (fun hHeld => ?_)
          clear hK K
          refine done_ (by kernel_rfl) ?_
          have hnb34 := NB786_765.out
          have hnc34 := NB765_786.out
          have hnb35 := NB786_766.out
          have hnc35 := NB766_786.out
          have hnb36 := NB786_776.out
          have hnc36 := NB776_786.out
          obtain ⟨hcz37_0, hcz37_1, hfz37_0, hfz37_1⟩ := c2_ BK786
          have hnb38 := NB776_766.out
          have hnc38 := NB766_776.out
          obtain ⟨hcz39_0, hcz39_1, hfz39_0, hfz39_1⟩ := c2_ BK776
          obtain ⟨Ao40, co40, eo40⟩ := Kd.R_slice HO_777000.out
          subst eo40
          obtain ⟨Ao41, co41, eo41⟩ := Kd.R_slice HO_777001.out
          subst eo41
          try go_wp2_with (first | ((with_reducible refine gate_callee (f := 121) rfl ?_); refine gL_ (some 24) Try.func121 #[.agg #[.slice Ao30 t780.length co30, .slice Ao32 t783.length co32], .agg #[.slice Ao40 x777000_1.length co40, .slice Ao41 x777001_1.length co41]] rfl qa_ ?_; (with_reducible refine (spec_l03Before.calls k1 _ _ t780 _ _ t783 _ _ x777000_1 _ _ x777001_1 true _ ?side1 ?side2 ?side3 ?side4 ?side5 ?side6 ?side7 ?side8 A19.out).mono ?_); (case side1 => refine (Kd.R_reads' (e := 3) (base := w.heap.size) (ok := fun k_ => (some k_ ≠ (v778 : Value).ownBlock ∧ (some k_ ≠ (.slice Ao32 t783.length co32 : Value).ownBlock ∧ (some k_ ≠ (.slice Ao40 x777000_1.length co40 : Value).ownBlock ∧ some k_ ≠ (.slice Ao41 x777001_1.length co41 : Value).ownBlock)))) (n := t780.length) (c := co30) ?_).2.2; exact (rw_ (fa_ HO782 BK786))); (case side2 => exact (Kd.R_reads' HO782.out).2.1); (case side3 => refine (Kd.R_reads' (e := 3) (base := w.heap.size) (ok := fun k_ => (some k_ ≠ (v778 : Value).ownBlock ∧ (some k_ ≠ (.slice Ao30 t780.length co30 : Value).ownBlock ∧ (some k_ ≠ (.slice Ao40 x777000_1.length co40 : Value).ownBlock ∧ some k_ ≠ (.slice Ao41 x777001_1.length co41 : Value).ownBlock)))) (n := t783.length) (c := co32) ?_).2.2; exact (rw_ (fa_ HO785 BK786))); (case side4 => exact (Kd.R_reads' HO785.out).2.1); (case side5 => refine (Kd.R_reads' (e := 3) (base := w.heap.size) (ok := fun k_ => (some k_ ≠ (v778 : Value).ownBlock ∧ (some k_ ≠ (.slice Ao30 t780.length co30 : Value).ownBlock ∧ (some k_ ≠ (.slice Ao32 t783.length co32 : Value).ownBlock ∧ some k_ ≠ (.slice Ao41 x777001_1.length co41 : Value).ownBlock)))) (n := x777000_1.length) (c := co40) ?_).2.2; exact (rw_ (fa_ HO_777000 BK786))); (case side6 => exact (Kd.R_reads' HO_777000.out).2.1); (case side7 => refine (Kd.R_reads' (e := 3) (base := w.heap.size) (ok := fun k_ => (some k_ ≠ (v778 : Value).ownBlock ∧ (some k_ ≠ (.slice Ao30 t780.length co30 : Value).ownBlock ∧ (some k_ ≠ (.slice Ao32 t783.length co32 : Value).ownBlock ∧ some k_ ≠ (.slice Ao40 x777000_1.length co40 : Value).ownBlock)))) (n := x777001_1.length) (c := co41) ?_).2.2; exact (rw_ (fa_ HO_777001 BK786))); (case side8 => exact (Kd.R_reads' HO_777001.out).2.1); rintro e w42 ⟨rfl, hb⟩; refine ⟨_, rfl, ?_⟩; replace HO_777000 := Aside0.mk (Kd.R_below (rw_ (fa_ HO_777000 BK786)) hb); replace HO_777001 := Aside0.mk (Kd.R_below (rw_ (fa_ HO_777001 BK786)) hb); replace HO779 := Aside0.mk (Kd.R_below (rw_ (fa_ HO779 BK786)) hb); replace HO782 := Aside0.mk (Kd.R_below (rw_ (fa_ HO782 BK786)) hb); replace HO785 := Aside0.mk (Kd.R_below (rw_ (fa_ HO785 BK786)) hb); replace BK765 := Aside0.mk (blk_below (g := gb765) (o := .cells #[.slice A0_0 l0_0.length c0_0, .slice A0_1 l0_1.length c0_1] 25 (0, 0)) (by (with_reducible repeat (first | refine blk_drewN ?_ _ | refine blk_drew ?_ | refine blk_alloc ?_ _)); refine blk_far ?_ NB765_786.out _; (with_reducible repeat (first | refine blk_drewN ?_ _ | refine blk_drew ?_ | refine blk_alloc ?_ _)); refine blk_far ?_ NB765_786.out _; (with_reducible repeat (first | refine blk_drewN ?_ _ | refine blk_drew ?_ | refine blk_alloc ?_ _)); exact BK765.out) hb); replace BK766 := Aside0.mk (blk_below (g := gb766) (o := .cells #[.slice none 0 0, .slice none 0 0] 25 (0, 0)) (by (with_reducible repeat (first | refine blk_drewN ?_ _ | refine blk_drew ?_ | refine blk_alloc ?_ _)); refine blk_far ?_ NB766_786.out _; (with_reducible repeat (first | refine blk_drewN ?_ _ | refine blk_drew ?_ | refine blk_alloc ?_ _)); refine blk_far ?_ NB766_786.out _; (with_reducible repeat (first | refine blk_drewN ?_ _ | refine blk_drew ?_ | refine blk_alloc ?_ _)); exact BK766.out) hb); replace BK776 := Aside0.mk (blk_below (g := gb776) (o := .cells #[.slice Ao40 x777000_1.length co40, .slice Ao41 x777001_1.length co41] 25 (0, 0)) (by (with_reducible repeat (first | refine blk_drewN ?_ _ | refine blk_drew ?_ | refine blk_alloc ?_ _)); refine blk_far ?_ NB776_786.out _; (with_reducible repeat (first | refine blk_drewN ?_ _ | refine blk_drew ?_ | refine blk_alloc ?_ _)); refine blk_far ?_ NB776_786.out _; (with_reducible repeat (first | refine blk_drewN ?_ _ | refine blk_drew ?_ | refine blk_alloc ?_ _)); exact BK776.out) hb); replace BK786 := Aside0.mk (blk_below (g := gb786) (o := .cells #[.slice Ao30 t780.length co30, .slice Ao32 t783.length co32] 25 (0, 0)) qp_ hb); replace HB := b1_ hb; clear hb; obtain ⟨hcz43_0, hcz43_1, hfz43_0, hfz43_1⟩ := c2_ BK786; obtain ⟨hcz44_0, hcz44_1, hfz44_0, hfz44_1⟩ := c2_ BK776))
          go_roundg k1
          case measure => have := HK1.out; omega
          case rel => exact ⟨(wrap64 (x4_1 + 1)), (t780), (t783), (.slice Ao30 t780.length co30), (.slice Ao32 t783.length co32), qc_, H', ⟨by have := HK1.out; omega⟩, ⟨(rw_ (Kd.R_mono (fa_ HO782 BK776) (fun _ hk => hk.2.1)))⟩, ⟨(rw_ (Kd.R_mono (fa_ HO785 BK776) (fun _ hk => hk.2.1)))⟩, ⟨by (with_reducible repeat (first | refine blk_drewN ?_ _ | refine blk_drew ?_ | refine blk_alloc ?_ _)); refine blk_far ?_ NB765_776.out _; (with_reducible repeat (first | refine blk_drewN ?_ _ | refine blk_drew ?_ | refine blk_alloc ?_ _)); refine blk_far ?_ NB765_776.out _; (with_reducible repeat (first | refine blk_drewN ?_ _ | refine blk_drew ?_ | refine blk_alloc ?_ _)); exact BK765.out⟩, ⟨by (with_reducible repeat (first | refine blk_drewN ?_ _ | refine blk_drew ?_ | refine blk_alloc ?_ _)); refine blk_far ?_ NB766_776.out _; (with_reducible repeat (first | refine blk_drewN ?_ _ | refine blk_drew ?_ | refine blk_alloc ?_ _)); refine blk_far ?_ NB766_776.out _; (with_reducible repeat (first | refine blk_drewN ?_ _ | refine blk_drew ?_ | refine blk_alloc ?_ _)); exact BK766.out⟩, ⟨qp_⟩, ⟨hB_⟩⟩
        · replace c20 := Bool.eq_false_iff.mpr c20
          subst c20
          have H1 : (spec_l03Canon.l0 k1 (wrap64 (x4_1 + 1)) l0_0 l0_1 x777000_1 x777001_1) = some (r1, r2) := by rw [if_neg (show ¬ (false = true) by decide)] at H; exact H
          clear H
          have H := H1
          clear H1
          have H' := Aside0.mk H
          clear H
          have hnb45 := NB765_766.out
          have hnc45 := NB766_765.out
          have hnb46 := NB765_776.out
          have hnc46 := NB776_765.out
          obtain ⟨hcz47_0, hcz47_1, hfz47_0, hfz47_1⟩ := c2_ BK765
          try go_wp2
          replace HO_777000 := Aside0.mk (Kd.R_drew HO_777000.out)
          replace HO_777001 := Aside0.mk (Kd.R_drew HO_777001.out)
          replace BK765 := Aside0.mk (blk_drew BK765.out)
          replace BK766 := Aside0.mk (blk_drew BK766.out)
          replace BK776 := Aside0.mk (blk_drew BK776.out)
          replace HB := Aside0.mk (below_drew1 HB.out)
          refine start_ (n := 7) (S := fun w' => w'.cell? ⟨gb765, 0, none⟩ = some (.slice A0_0 l0_0.length c0_0) ∧ w'.cell? ⟨gb765, 1, none⟩ = some (.slice A0_1 l0_1.length c0_1)) (ds := []) (bl_ 7 0) (by kernel_rfl) rfl (by kernel_rfl) ⟨cz0_ BK765, cz1_ BK765⟩ (fun hHeld => ?_)
          generalize wr.drew = w48 at HO_777000 HO_777001 BK765 BK766 BK776 HB hHeld ⊢
          refine pure_ (i := 2) (N := some 19) (v := ?_) (a' := ?_) (bl_ 7 4) rfl rfl (by kernel_rfl) (fun _ _ _ h => h) (Or.inl ⟨by rfl, ?_⟩) ?_ ?_
          rotate_left
          · intro w'
            go_simp
            with_reducible rfl
          rotate_left
          · simp only [Act.put, List.setIfInBounds_toArray, List.set_cons_zero, List.set_cons_succ, i64_w, i32_w]
            rfl
          refine take_ (i := 0) (N := some 17) (v := ?_) (a' := ?_) (bl_ 7 5) rfl rfl (by kernel_rfl) (fun _ _ _ h => h) (Or.inl ⟨by rfl, ?_⟩) hHeld ?_ ?_
          rotate_left
          · rintro w' ⟨s0, s1⟩
            go_simp
            with_reducible rfl
          rotate_left
          · simp only [Act.put, List.setIfInBounds_toArray, List.set_cons_zero, List.set_cons_succ, i64_w, i32_w]
            rfl
          refine take_ (i := 1) (N := some 18) (v := ?_) (a' := ?_) (bl_ 7 7) rfl rfl (by kernel_rfl) (fun _ _ _ h => h) (Or.inl ⟨by rfl, ?_⟩) hHeld ?_ ?_
          rotate_left
          · rintro w' ⟨s0, s1⟩
            go_simp
            with_reducible rfl
          rotate_left
          · simp only [Act.put, List.setIfInBounds_toArray, List.set_cons_zero, List.set_cons_succ, i64_w, i32_w]
            rfl
          refine join_ (σ := Value × Value × Value × Nat) 1 (bl_ 7 63) (fun s_ => [(20, s_.1), (21, .agg #[s_.2.1, s_.2.2.1]), (5, .pointer (some ⟨s_.2.2.2, 0, none⟩))]) (fun s_ w' => (w'.cell? ⟨gb765, 0, none⟩ = some (.slice A0_0 l0_0.length c0_0) ∧ w'.cell? ⟨gb765, 1, none⟩ = some (.slice A0_1 l0_1.length c0_1)) ∧ (Kd.R (Kd.int .i64) 3 w' w.heap.size (fun k_ => some k_ ≠ (s_.2.1 : Value).ownBlock ∧ some k_ ≠ (s_.2.2.1 : Value).ownBlock ∧ some k_ ≠ (u777000 : Value).ownBlock ∧ some k_ ≠ (u777001 : Value).ownBlock) s_.1 t777) ∧ (Kd.R (Kd.int .i64) 3 w' w.heap.size (fun k_ => some k_ ≠ (s_.1 : Value).ownBlock ∧ some k_ ≠ (s_.2.2.1 : Value).ownBlock ∧ some k_ ≠ (u777000 : Value).ownBlock ∧ some k_ ≠ (u777001 : Value).ownBlock) s_.2.1 t780) ∧ (Kd.R (Kd.int .i64) 3 w' w.heap.size (fun k_ => some k_ ≠ (s_.1 : Value).ownBlock ∧ some k_ ≠ (s_.2.1 : Value).ownBlock ∧ some k_ ≠ (u777000 : Value).ownBlock ∧ some k_ ≠ (u777001 : Value).ownBlock) s_.2.2.1 t783) ∧ (Kd.R (Kd.int .i64) 3 w' w.heap.size (fun k_ => some k_ ≠ (s_.1 : Value).ownBlock ∧ some k_ ≠ (s_.2.1 : Value).ownBlock ∧ some k_ ≠ (s_.2.2.1 : Value).ownBlock ∧ some k_ ≠ (u777001 : Value).ownBlock) u777000 x777000_1) ∧ (Kd.R (Kd.int .i64) 3 w' w.heap.size (fun k_ => some k_ ≠ (s_.1 : Value).ownBlock ∧ some k_ ≠ (s_.2.1 : Value).ownBlock ∧ some k_ ≠ (s_.2.2.1 : Value).ownBlock ∧ some k_ ≠ (u777000 : Value).ownBlock) u777001 x777001_1) ∧ (w'.heap[gb765]? = some (.cells #[.slice A0_0 l0_0.length c0_0, .slice A0_1 l0_1.length c0_1] 25 (0, 0))) ∧ (w'.heap[gb766]? = some (.cells #[.slice none 0 0, .slice none 0 0] 25 (0, 0))) ∧ (w'.heap[gb776]? = some (.cells #[u777000, u777001] 25 (0, 0))) ∧ (w'.heap[s_.2.2.2]? = some (.cells #[.slice none 0 0, .slice none 0 0] 25 (0, 0))) ∧ (w.heap.size ≤ s_.2.2.2) ∧ (w.heap.size ≤ s_.2.2.2) ∧ (gb765 ≠ s_.2.2.2) ∧ (s_.2.2.2 ≠ gb765) ∧ (gb766 ≠ s_.2.2.2) ∧ (s_.2.2.2 ≠ gb766) ∧ (gb776 ≠ s_.2.2.2) ∧ (s_.2.2.2 ≠ gb776) ∧ (Below w.heap.size w w')) ?_ ?_
          rotate_left
          · intro hCont
            refine two_ (i := 3) (j := 5) (Ni := some 20) (Nj := some 5) (bl_ 7 15) (bl_ 7 39) rfl rfl rfl rfl (by kernel_rfl) (by decide) (by decide) (fun K hK => ?_) (fun K hK => ?_)
            · skip
              refine gO_ Try.func120 #[.agg #[.slice A0_0 l0_0.length c0_0, .slice A0_1 l0_1.length c0_1], .int .i64 x4_1] (by rfl) rfl rfl qa_ ?_
              with_reducible refine (spec_l03Names.calls k1 _ _ l0_0 _ _ l0_1 x4_1 t777 _ (cb_ HR0_0) HC0_0.out (cb_ HR0_1) HC0_1.out A17.out).mono ?_
              rintro e w49 ⟨v778, rfl, ho0, hb⟩
              refine ⟨_, rfl, ?_⟩
              have HO779 := Aside0.mk (Kd.R_lower (Kd.R_new' (Kd.R_new' ho0 (Kd.R_lt (rr_ HO_777000))) (Kd.R_lt (rr_ HO_777001))) (below_size hB_))
              replace HO_777000 := Aside0.mk (Kd.R_elder' (rr_ HO_777000) (Kd.R_base ho0) hb)
              replace HO_777001 := Aside0.mk (Kd.R_elder' (rr_ HO_777001) (Kd.R_base ho0) hb)
              replace BK765 := bb_ BK765 hb
              replace BK766 := bb_ BK766 hb
              replace BK776 := bb_ BK776 hb
              replace HB := b1_ hb
              clear hb ho0
              obtain ⟨Ao50, co50, eo50⟩ := Kd.R_slice HO779.out
              (first | subst eo50 | (injection eo50 with f1_ f2_ f3_; have f4_ := f1_.symm; have f5_ := f3_.symm; clear f1_ f2_ f3_; subst f4_; subst f5_))
              refine hK.out _ _ ⟨cz0_ BK765, cz1_ BK765⟩ (fun hHeld => ?_)
              clear hK K
              refine no_ (some 20) ?_
              refine two_ (i := 4) (j := 5) (Ni := some 21) (Nj := some 5) (bl_ 7 31) (bl_ 7 47) rfl rfl rfl rfl (by kernel_rfl) (by decide) (by decide) (fun K hK => ?_) (fun K hK => ?_)
              · skip
                refine gO_ Try.func119 #[.agg #[.slice A0_0 l0_0.length c0_0, .slice A0_1 l0_1.length c0_1], .slice Ao50 t777.length co50] (by rfl) rfl rfl qa_ ?_
                with_reducible refine (spec_l03Rename.calls k1 _ _ l0_0 _ _ l0_1 _ _ t777 t780 t783 _ (cb_ HR0_0) HC0_0.out (cb_ HR0_1) HC0_1.out (cr_ HO779) ((Kd.R_reads' HO779.out).2.1) A18.out).mono ?_
                rintro e w51 ⟨v781, v784, rfl, ho0, ho1, hb⟩
                refine ⟨_, rfl, ?_⟩
                have HO782 := Aside0.mk (Kd.R_lower (Kd.R_new' (Kd.R_new' (Kd.R_new' ho0 (Kd.R_lt (rr_ HO_777000))) (Kd.R_lt (rr_ HO_777001))) (Kd.R_lt (rr_ HO779))) (below_size hB_))
                have HO785 := Aside0.mk (Kd.R_lower (Kd.R_new' (Kd.R_new' (Kd.R_new' ho1 (Kd.R_lt (rr_ HO_777000))) (Kd.R_lt (rr_ HO_777001))) (Kd.R_lt (rr_ HO779))) (below_size hB_))
                replace HO_777000 := Aside0.mk (Kd.R_mono (Kd.R_told (Kd.R_told (Kd.R_old (rr_ HO_777000) hb) (Kd.R_base ho0)) (Kd.R_base ho1)) (fun _ h_ => h_.1))
                replace HO_777001 := Aside0.mk (Kd.R_mono (Kd.R_told (Kd.R_told (Kd.R_old (rr_ HO_777001) hb) (Kd.R_base ho0)) (Kd.R_base ho1)) (fun _ h_ => h_.1))
                replace HO779 := Aside0.mk (Kd.R_mono (Kd.R_told (Kd.R_told (Kd.R_old (rr_ HO779) hb) (Kd.R_base ho0)) (Kd.R_base ho1)) (fun _ h_ => h_.1))
                replace BK765 := bb_ BK765 hb
                replace BK766 := bb_ BK766 hb
                replace BK776 := bb_ BK776 hb
                replace HB := b1_ hb
                clear hb ho0 ho1
                refine hK.out _ _ ⟨cz0_ BK765, cz1_ BK765⟩ (fun hHeld => ?_)
                clear hK K
                refine no_ (some 21) ?_
                refine one_ (i := 5) (N := some 5) (bl_ 7 63) rfl rfl (by kernel_rfl) (by decide) (fun K hK => ?_)
                refine box_step ?hg (N := 5) ?hd (cs := #[.slice none 0 0, .slice none 0 0]) (t := 25) ?hr ?_; (case hd => rfl); (case hg => rfl); (case hr => first | (go_simp; done) | (go_simp; rfl))
                intro gb786 hg w52 hbox hb
                replace HO_777000 := rb_ HO_777000 hb
                replace HO_777001 := rb_ HO_777001 hb
                replace HO779 := rb_ HO779 hb
                replace HO782 := rb_ HO782 hb
                replace HO785 := rb_ HO785 hb
                have BK786 := Aside0.mk hbox
                have GW786 := gw_ w hg
                have GE786 := GW786
                replace HB := b1_ hb
                have NB765_786 := gN_ BK765 hg
                have NB786_765 := gP_ BK765 hg
                replace BK765 := bb_ BK765 hb
                have NB766_786 := gN_ BK766 hg
                have NB786_766 := gP_ BK766 hg
                replace BK766 := bb_ BK766 hb
                have NB776_786 := gN_ BK776 hg
                have NB786_776 := gP_ BK776 hg
                replace BK776 := bb_ BK776 hb
                clear hb hbox hg
                refine hK.out _ _ ⟨cz0_ BK765, cz1_ BK765⟩ (fun hHeld => ?_)
                clear hK K
                refine no_ (some 5) ?_
                exact norm_ (by simp only [putAll, Act.put, List.setIfInBounds_toArray, List.set_cons_zero, List.set_cons_succ]) (hCont (.slice Ao50 t777.length co50, v781, v784, gb786) _ ⟨hHeld, (rw_ (Kd.R_mono HO779.out (fun _ hk => ⟨hk.1.2, ⟨hk.2, ⟨hk.1.1.1.2, hk.1.1.2⟩⟩⟩))), (rw_ (Kd.R_mono HO782.out (fun _ hk => ⟨hk.2, ⟨hk.1.1.1, ⟨hk.1.1.2, hk.1.2⟩⟩⟩))), (rw_ (Kd.R_mono HO785.out (fun _ hk => ⟨hk.2, ⟨hk.1.1.1, ⟨hk.1.1.2, hk.1.2⟩⟩⟩))), (rw_ (Kd.R_mono HO_777000.out (fun _ hk => ⟨hk.1.1.2, ⟨hk.1.2, ⟨hk.2, hk.1.1.1⟩⟩⟩))), (rw_ (Kd.R_mono HO_777001.out (fun _ hk => ⟨hk.1.1.2, ⟨hk.1.2, ⟨hk.2, hk.1.1.1⟩⟩⟩))), (kk_ BK765), (kk_ BK766), (kk_ BK776), (kk_ BK786), GW786.out, GE786.out, NB765_786.out, NB786_765.out, NB766_786.out, NB786_766.out, NB776_786.out, NB786_776.out, hB_⟩)
              · skip
                refine box_step ?hg (N := 5) ?hd (cs := #[.slice none 0 0, .slice none 0 0]) (t := 25) ?hr ?_; (case hd => rfl); (case hg => rfl); (case hr => first | (go_simp; done) | (go_simp; rfl))
                intro gb786 hg w50 hbox hb
                replace HO_777000 := rb_ HO_777000 hb
                replace HO_777001 := rb_ HO_777001 hb
                replace HO779 := rb_ HO779 hb
                have BK786 := Aside0.mk hbox
                have GW786 := gw_ w hg
                have GE786 := GW786
                replace HB := b1_ hb
                have NB765_786 := gN_ BK765 hg
                have NB786_765 := gP_ BK765 hg
                replace BK765 := bb_ BK765 hb
                have NB766_786 := gN_ BK766 hg
                have NB786_766 := gP_ BK766 hg
                replace BK766 := bb_ BK766 hb
                have NB776_786 := gN_ BK776 hg
                have NB786_776 := gP_ BK776 hg
                replace BK776 := bb_ BK776 hb
                clear hb hbox hg
                obtain ⟨Ao51, co51, eo51⟩ := Kd.R_slice HO779.out
                (first | subst eo51 | (injection eo51 with f1_ f2_ f3_; have f4_ := f1_.symm; have f5_ := f3_.symm; clear f1_ f2_ f3_; subst f4_; subst f5_))
                refine hK.out _ _ ⟨cz0_ BK765, cz1_ BK765⟩ (fun hHeld => ?_)
                clear hK K
                refine no_ (some 5) ?_
                refine one_ (i := 4) (N := some 21) (bl_ 7 63) rfl rfl (by kernel_rfl) (by decide) (fun K hK => ?_)
                refine gO_ Try.func119 #[.agg #[.slice A0_0 l0_0.length c0_0, .slice A0_1 l0_1.length c0_1], .slice Ao51 t777.length co51] (by rfl) rfl rfl qa_ ?_
                with_reducible refine (spec_l03Rename.calls k1 _ _ l0_0 _ _ l0_1 _ _ t777 t780 t783 _ (cb_ HR0_0) HC0_0.out (cb_ HR0_1) HC0_1.out (cr_ HO779) ((Kd.R_reads' HO779.out).2.1) A18.out).mono ?_
                rintro e w52 ⟨v781, v784, rfl, ho0, ho1, hb⟩
                refine ⟨_, rfl, ?_⟩
                have HO782 := Aside0.mk (Kd.R_lower (Kd.R_new' (Kd.R_new' (Kd.R_new' ho0 (Kd.R_lt (rr_ HO_777000))) (Kd.R_lt (rr_ HO_777001))) (Kd.R_lt (rr_ HO779))) (below_size hB_))
                have HO785 := Aside0.mk (Kd.R_lower (Kd.R_new' (Kd.R_new' (Kd.R_new' ho1 (Kd.R_lt (rr_ HO_777000))) (Kd.R_lt (rr_ HO_777001))) (Kd.R_lt (rr_ HO779))) (below_size hB_))
                replace HO_777000 := Aside0.mk (Kd.R_mono (Kd.R_told (Kd.R_told (Kd.R_old (rr_ HO_777000) hb) (Kd.R_base ho0)) (Kd.R_base ho1)) (fun _ h_ => h_.1))
                replace HO_777001 := Aside0.mk (Kd.R_mono (Kd.R_told (Kd.R_told (Kd.R_old (rr_ HO_777001) hb) (Kd.R_base ho0)) (Kd.R_base ho1)) (fun _ h_ => h_.1))
                replace HO779 := Aside0.mk (Kd.R_mono (Kd.R_told (Kd.R_told (Kd.R_old (rr_ HO779) hb) (Kd.R_base ho0)) (Kd.R_base ho1)) (fun _ h_ => h_.1))
                replace BK765 := bb_ BK765 hb
                replace BK766 := bb_ BK766 hb
                replace BK776 := bb_ BK776 hb
                replace BK786 := bb_ BK786 hb
                replace HB := b1_ hb
                clear hb ho0 ho1
                refine hK.out _ _ ⟨cz0_ BK765, cz1_ BK765⟩ (fun hHeld => ?_)
                clear hK K
                refine no_ (some 21) ?_
                exact norm_ (by simp only [putAll, Act.put, List.setIfInBounds_toArray, List.set_cons_zero, List.set_cons_succ]) (hCont (.slice Ao51 t777.length co51, v781, v784, gb786) _ ⟨hHeld, (rw_ (Kd.R_mono HO779.out (fun _ hk => ⟨hk.1.2, ⟨hk.2, ⟨hk.1.1.1.2, hk.1.1.2⟩⟩⟩))), (rw_ (Kd.R_mono HO782.out (fun _ hk => ⟨hk.2, ⟨hk.1.1.1, ⟨hk.1.1.2, hk.1.2⟩⟩⟩))), (rw_ (Kd.R_mono HO785.out (fun _ hk => ⟨hk.2, ⟨hk.1.1.1, ⟨hk.1.1.2, hk.1.2⟩⟩⟩))), (rw_ (Kd.R_mono HO_777000.out (fun _ hk => ⟨hk.1.1.2, ⟨hk.1.2, ⟨hk.2, hk.1.1.1⟩⟩⟩))), (rw_ (Kd.R_mono HO_777001.out (fun _ hk => ⟨hk.1.1.2, ⟨hk.1.2, ⟨hk.2, hk.1.1.1⟩⟩⟩))), (kk_ BK765), (kk_ BK766), (kk_ BK776), (kk_ BK786), GW786.out, GE786.out, NB765_786.out, NB786_765.out, NB766_786.out, NB786_766.out, NB776_786.out, NB786_776.out, hB_⟩)
            · skip
              refine box_step ?hg (N := 5) ?hd (cs := #[.slice none 0 0, .slice none 0 0]) (t := 25) ?hr ?_; (case hd => rfl); (case hg => rfl); (case hr => first | (go_simp; done) | (go_simp; rfl))
              intro gb786 hg w49 hbox hb
              replace HO_777000 := rb_ HO_777000 hb
              replace HO_777001 := rb_ HO_777001 hb
              have BK786 := Aside0.mk hbox
              have GW786 := gw_ w hg
              have GE786 := GW786
              replace HB := b1_ hb
              have NB765_786 := gN_ BK765 hg
              have NB786_765 := gP_ BK765 hg
              replace BK765 := bb_ BK765 hb
              have NB766_786 := gN_ BK766 hg
              have NB786_766 := gP_ BK766 hg
              replace BK766 := bb_ BK766 hb
              have NB776_786 := gN_ BK776 hg
              have NB786_776 := gP_ BK776 hg
              replace BK776 := bb_ BK776 hb
              clear hb hbox hg
              refine hK.out _ _ ⟨cz0_ BK765, cz1_ BK765⟩ (fun hHeld => ?_)
              clear hK K
              refine no_ (some 5) ?_
              refine one_ (i := 3) (N := some 20) (bl_ 7 47) rfl rfl (by kernel_rfl) (by decide) (fun K hK => ?_)
              refine gO_ Try.func120 #[.agg #[.slice A0_0 l0_0.length c0_0, .slice A0_1 l0_1.length c0_1], .int .i64 x4_1] (by rfl) rfl rfl qa_ ?_
              with_reducible refine (spec_l03Names.calls k1 _ _ l0_0 _ _ l0_1 x4_1 t777 _ (cb_ HR0_0) HC0_0.out (cb_ HR0_1) HC0_1.out A17.out).mono ?_
              rintro e w50 ⟨v778, rfl, ho0, hb⟩
              refine ⟨_, rfl, ?_⟩
              have HO779 := Aside0.mk (Kd.R_lower (Kd.R_new' (Kd.R_new' ho0 (Kd.R_lt (rr_ HO_777000))) (Kd.R_lt (rr_ HO_777001))) (below_size hB_))
              replace HO_777000 := Aside0.mk (Kd.R_elder' (rr_ HO_777000) (Kd.R_base ho0) hb)
              replace HO_777001 := Aside0.mk (Kd.R_elder' (rr_ HO_777001) (Kd.R_base ho0) hb)
              replace BK765 := bb_ BK765 hb
              replace BK766 := bb_ BK766 hb
              replace BK776 := bb_ BK776 hb
              replace BK786 := bb_ BK786 hb
              replace HB := b1_ hb
              clear hb ho0
              obtain ⟨Ao51, co51, eo51⟩ := Kd.R_slice HO779.out
              (first | subst eo51 | (injection eo51 with f1_ f2_ f3_; have f4_ := f1_.symm; have f5_ := f3_.symm; clear f1_ f2_ f3_; subst f4_; subst f5_))
              refine hK.out _ _ ⟨cz0_ BK765, cz1_ BK765⟩ (fun hHeld => ?_)
              clear hK K
              refine no_ (some 20) ?_
              refine one_ (i := 4) (N := some 21) (bl_ 7 63) rfl rfl (by kernel_rfl) (by decide) (fun K hK => ?_)
              refine gO_ Try.func119 #[.agg #[.slice A0_0 l0_0.length c0_0, .slice A0_1 l0_1.length c0_1], .slice Ao51 t777.length co51] (by rfl) rfl rfl qa_ ?_
              with_reducible refine (spec_l03Rename.calls k1 _ _ l0_0 _ _ l0_1 _ _ t777 t780 t783 _ (cb_ HR0_0) HC0_0.out (cb_ HR0_1) HC0_1.out (cr_ HO779) ((Kd.R_reads' HO779.out).2.1) A18.out).mono ?_
              rintro e w52 ⟨v781, v784, rfl, ho0, ho1, hb⟩
              refine ⟨_, rfl, ?_⟩
              have HO782 := Aside0.mk (Kd.R_lower (Kd.R_new' (Kd.R_new' (Kd.R_new' ho0 (Kd.R_lt (rr_ HO_777000))) (Kd.R_lt (rr_ HO_777001))) (Kd.R_lt (rr_ HO779))) (below_size hB_))
              have HO785 := Aside0.mk (Kd.R_lower (Kd.R_new' (Kd.R_new' (Kd.R_new' ho1 (Kd.R_lt (rr_ HO_777000))) (Kd.R_lt (rr_ HO_777001))) (Kd.R_lt (rr_ HO779))) (below_size hB_))
              replace HO_777000 := Aside0.mk (Kd.R_mono (Kd.R_told (Kd.R_told (Kd.R_old (rr_ HO_777000) hb) (Kd.R_base ho0)) (Kd.R_base ho1)) (fun _ h_ => h_.1))
              replace HO_777001 := Aside0.mk (Kd.R_mono (Kd.R_told (Kd.R_told (Kd.R_old (rr_ HO_777001) hb) (Kd.R_base ho0)) (Kd.R_base ho1)) (fun _ h_ => h_.1))
              replace HO779 := Aside0.mk (Kd.R_mono (Kd.R_told (Kd.R_told (Kd.R_old (rr_ HO779) hb) (Kd.R_base ho0)) (Kd.R_base ho1)) (fun _ h_ => h_.1))
              replace BK765 := bb_ BK765 hb
              replace BK766 := bb_ BK766 hb
              replace BK776 := bb_ BK776 hb
              replace BK786 := bb_ BK786 hb
              replace HB := b1_ hb
              clear hb ho0 ho1
              refine hK.out _ _ ⟨cz0_ BK765, cz1_ BK765⟩ (fun hHeld => ?_)
              clear hK K
              refine no_ (some 21) ?_
              exact norm_ (by simp only [putAll, Act.put, List.setIfInBounds_toArray, List.set_cons_zero, List.set_cons_succ]) (hCont (.slice Ao51 t777.length co51, v781, v784, gb786) _ ⟨hHeld, (rw_ (Kd.R_mono HO779.out (fun _ hk => ⟨hk.1.2, ⟨hk.2, ⟨hk.1.1.1.2, hk.1.1.2⟩⟩⟩))), (rw_ (Kd.R_mono HO782.out (fun _ hk => ⟨hk.2, ⟨hk.1.1.1, ⟨hk.1.1.2, hk.1.2⟩⟩⟩))), (rw_ (Kd.R_mono HO785.out (fun _ hk => ⟨hk.2, ⟨hk.1.1.1, ⟨hk.1.1.2, hk.1.2⟩⟩⟩))), (rw_ (Kd.R_mono HO_777000.out (fun _ hk => ⟨hk.1.1.2, ⟨hk.1.2, ⟨hk.2, hk.1.1.1⟩⟩⟩))), (rw_ (Kd.R_mono HO_777001.out (fun _ hk => ⟨hk.1.1.2, ⟨hk.1.2, ⟨hk.2, hk.1.1.1⟩⟩⟩))), (kk_ BK765), (kk_ BK766), (kk_ BK776), (kk_ BK786), GW786.out, GE786.out, NB765_786.out, NB786_765.out, NB766_786.out, NB786_766.out, NB776_786.out, NB786_776.out, hB_⟩)
          rintro ⟨v778, v781, v784, gb786⟩ w53 ⟨hS_, h0_, h1_, h2_, h3_, h4_, h5_, h6_, h7_, h8_, h9_, h10_, h11_, h12_, h13_, h14_, h15_, h16_, h17_⟩
          have n0_ : Aside0 (Kd.R (Kd.int .i64) 3 w53 w.heap.size (fun k_ => some k_ ≠ (v781 : Value).ownBlock ∧ some k_ ≠ (v784 : Value).ownBlock ∧ some k_ ≠ (u777000 : Value).ownBlock ∧ some k_ ≠ (u777001 : Value).ownBlock) v778 t777) := ⟨h0_⟩
          have n1_ : Aside0 (Kd.R (Kd.int .i64) 3 w53 w.heap.size (fun k_ => some k_ ≠ (v778 : Value).ownBlock ∧ some k_ ≠ (v784 : Value).ownBlock ∧ some k_ ≠ (u777000 : Value).ownBlock ∧ some k_ ≠ (u777001 : Value).ownBlock) v781 t780) := ⟨h1_⟩
          have n2_ : Aside0 (Kd.R (Kd.int .i64) 3 w53 w.heap.size (fun k_ => some k_ ≠ (v778 : Value).ownBlock ∧ some k_ ≠ (v781 : Value).ownBlock ∧ some k_ ≠ (u777000 : Value).ownBlock ∧ some k_ ≠ (u777001 : Value).ownBlock) v784 t783) := ⟨h2_⟩
          have n3_ : Aside0 (Kd.R (Kd.int .i64) 3 w53 w.heap.size (fun k_ => some k_ ≠ (v778 : Value).ownBlock ∧ some k_ ≠ (v781 : Value).ownBlock ∧ some k_ ≠ (v784 : Value).ownBlock ∧ some k_ ≠ (u777001 : Value).ownBlock) u777000 x777000_1) := ⟨h3_⟩
          have n4_ : Aside0 (Kd.R (Kd.int .i64) 3 w53 w.heap.size (fun k_ => some k_ ≠ (v778 : Value).ownBlock ∧ some k_ ≠ (v781 : Value).ownBlock ∧ some k_ ≠ (v784 : Value).ownBlock ∧ some k_ ≠ (u777000 : Value).ownBlock) u777001 x777001_1) := ⟨h4_⟩
          have n5_ : Aside0 (w53.heap[gb765]? = some (.cells #[.slice A0_0 l0_0.length c0_0, .slice A0_1 l0_1.length c0_1] 25 (0, 0))) := ⟨h5_⟩
          have n6_ : Aside0 (w53.heap[gb766]? = some (.cells #[.slice none 0 0, .slice none 0 0] 25 (0, 0))) := ⟨h6_⟩
          have n7_ : Aside0 (w53.heap[gb776]? = some (.cells #[u777000, u777001] 25 (0, 0))) := ⟨h7_⟩
          have n8_ : Aside0 (w53.heap[gb786]? = some (.cells #[.slice none 0 0, .slice none 0 0] 25 (0, 0))) := ⟨h8_⟩
          have n9_ : Aside0 (w.heap.size ≤ gb786) := ⟨h9_⟩
          have n10_ : Aside0 (w.heap.size ≤ gb786) := ⟨h10_⟩
          have n11_ : Aside0 (gb765 ≠ gb786) := ⟨h11_⟩
          have n12_ : Aside0 (gb786 ≠ gb765) := ⟨h12_⟩
          have n13_ : Aside0 (gb766 ≠ gb786) := ⟨h13_⟩
          have n14_ : Aside0 (gb786 ≠ gb766) := ⟨h14_⟩
          have n15_ : Aside0 (gb776 ≠ gb786) := ⟨h15_⟩
          have n16_ : Aside0 (gb786 ≠ gb776) := ⟨h16_⟩
          have n17_ : Aside0 (Below w.heap.size w w53) := ⟨h17_⟩
          clear HO_777000
          clear HO_777001
          clear BK765
          clear BK766
          clear BK776
          clear HB
          clear h0_ h1_ h2_ h3_ h4_ h5_ h6_ h7_ h8_ h9_ h10_ h11_ h12_ h13_ h14_ h15_ h16_ h17_
          have HO779 := n0_
          have HO782 := n1_
          have HO785 := n2_
          have HO_777000 := n3_
          have HO_777001 := n4_
          have BK765 := n5_
          have BK766 := n6_
          have BK776 := n7_
          have BK786 := n8_
          have GW786 := n9_
          have GE786 := n10_
          have NB765_786 := n11_
          have NB786_765 := n12_
          have NB766_786 := n13_
          have NB786_766 := n14_
          have NB776_786 := n15_
          have NB786_776 := n16_
          have HB := n17_
          clear n0_ n1_ n2_ n3_ n4_ n5_ n6_ n7_ n8_ n9_ n10_ n11_ n12_ n13_ n14_ n15_ n16_ n17_
          have hHeld : w53.cell? ⟨gb765, 0, none⟩ = some (.slice A0_0 l0_0.length c0_0) ∧ w53.cell? ⟨gb765, 1, none⟩ = some (.slice A0_1 l0_1.length c0_1) := hS_
          obtain ⟨Ao54, co54, eo54⟩ := Kd.R_slice HO782.out
          (first | subst eo54 | (injection eo54 with f1_ f2_ f3_; have f4_ := f1_.symm; have f5_ := f3_.symm; clear f1_ f2_ f3_; subst f4_; subst f5_))
          obtain ⟨Ao56, co56, eo56⟩ := Kd.R_slice HO785.out
          (first | subst eo56 | (injection eo56 with f1_ f2_ f3_; have f4_ := f1_.symm; have f5_ := f3_.symm; clear f1_ f2_ f3_; subst f4_; subst f5_))
          refine norm_ (a' := ?_) ?_ ?_
          rotate_left
          · simp only [putAll, Act.put, List.setIfInBounds_toArray, List.set_cons_zero, List.set_cons_succ]
            rfl
          refine one_ (i := 6) (N := none) (bl_ 7 127) rfl rfl (by kernel_rfl) (by decide) (fun K hK => ?_)
          have hs55 : w53.cell? ⟨gb786, 0, none⟩ = some (.slice none 0 0) := cz0_ BK786
          have hfs55 := blk_frozen BK786.out 0
          have hns55_0 := NB765_786.out
          have hns55_1 := NB766_786.out
          have hns55_2 := NB776_786.out
          have hms55_0 := NB786_765.out
          have hms55_1 := NB786_766.out
          have hms55_2 := NB786_776.out
          have hs57 : w53.cell? ⟨gb786, 1, none⟩ = some (.slice none 0 0) := cz1_ BK786
          have hfs57 := blk_frozen BK786.out 1
          have hns57_0 := NB765_786.out
          have hns57_1 := NB766_786.out
          have hns57_2 := NB776_786.out
          have hms57_0 := NB786_765.out
          have hms57_1 := NB786_766.out
          have hms57_2 := NB786_776.out
          refine skip_ (w1 := ?_) (by rfl) rfl ?_ ?_
          rotate_left
          · go_simp
            rfl
          refine hK.out _ _ ⟨((cell_far (p := ⟨gb786, _, none⟩) NB765_786.out _).trans (((cell_far (p := ⟨gb786, _, none⟩) NB765_786.out _).trans (hHeld.1)))), ((cell_far (p := ⟨gb786, _, none⟩) NB765_786.out _).trans (((cell_far (p := ⟨gb786, _, none⟩) NB765_786.out _).trans (hHeld.2))))⟩ (fun hHeld => ?_)
          clear hK K
          refine done_ (by kernel_rfl) ?_
          have hnb58 := NB786_765.out
          have hnc58 := NB765_786.out
          have hnb59 := NB786_766.out
          have hnc59 := NB766_786.out
          have hnb60 := NB786_776.out
          have hnc60 := NB776_786.out
          obtain ⟨hcz61_0, hcz61_1, hfz61_0, hfz61_1⟩ := c2_ BK786
          have hnb62 := NB776_766.out
          have hnc62 := NB766_776.out
          obtain ⟨hcz63_0, hcz63_1, hfz63_0, hfz63_1⟩ := c2_ BK776
          obtain ⟨Ao64, co64, eo64⟩ := Kd.R_slice HO_777000.out
          subst eo64
          obtain ⟨Ao65, co65, eo65⟩ := Kd.R_slice HO_777001.out
          subst eo65
          try go_wp2_with (first | ((with_reducible refine gate_callee (f := 121) rfl ?_); refine gL_ (some 24) Try.func121 #[.agg #[.slice Ao54 t780.length co54, .slice Ao56 t783.length co56], .agg #[.slice Ao64 x777000_1.length co64, .slice Ao65 x777001_1.length co65]] rfl qa_ ?_; (with_reducible refine (spec_l03Before.calls k1 _ _ t780 _ _ t783 _ _ x777000_1 _ _ x777001_1 false _ ?side1 ?side2 ?side3 ?side4 ?side5 ?side6 ?side7 ?side8 A19.out).mono ?_); (case side1 => refine (Kd.R_reads' (e := 3) (base := w.heap.size) (ok := fun k_ => (some k_ ≠ (v778 : Value).ownBlock ∧ (some k_ ≠ (.slice Ao56 t783.length co56 : Value).ownBlock ∧ (some k_ ≠ (.slice Ao64 x777000_1.length co64 : Value).ownBlock ∧ some k_ ≠ (.slice Ao65 x777001_1.length co65 : Value).ownBlock)))) (n := t780.length) (c := co54) ?_).2.2; exact (rw_ (fa_ HO782 BK786))); (case side2 => exact (Kd.R_reads' HO782.out).2.1); (case side3 => refine (Kd.R_reads' (e := 3) (base := w.heap.size) (ok := fun k_ => (some k_ ≠ (v778 : Value).ownBlock ∧ (some k_ ≠ (.slice Ao54 t780.length co54 : Value).ownBlock ∧ (some k_ ≠ (.slice Ao64 x777000_1.length co64 : Value).ownBlock ∧ some k_ ≠ (.slice Ao65 x777001_1.length co65 : Value).ownBlock)))) (n := t783.length) (c := co56) ?_).2.2; exact (rw_ (fa_ HO785 BK786))); (case side4 => exact (Kd.R_reads' HO785.out).2.1); (case side5 => refine (Kd.R_reads' (e := 3) (base := w.heap.size) (ok := fun k_ => (some k_ ≠ (v778 : Value).ownBlock ∧ (some k_ ≠ (.slice Ao54 t780.length co54 : Value).ownBlock ∧ (some k_ ≠ (.slice Ao56 t783.length co56 : Value).ownBlock ∧ some k_ ≠ (.slice Ao65 x777001_1.length co65 : Value).ownBlock)))) (n := x777000_1.length) (c := co64) ?_).2.2; exact (rw_ (fa_ HO_777000 BK786))); (case side6 => exact (Kd.R_reads' HO_777000.out).2.1); (case side7 => refine (Kd.R_reads' (e := 3) (base := w.heap.size) (ok := fun k_ => (some k_ ≠ (v778 : Value).ownBlock ∧ (some k_ ≠ (.slice Ao54 t780.length co54 : Value).ownBlock ∧ (some k_ ≠ (.slice Ao56 t783.length co56 : Value).ownBlock ∧ some k_ ≠ (.slice Ao64 x777000_1.length co64 : Value).ownBlock)))) (n := x777001_1.length) (c := co65) ?_).2.2; exact (rw_ (fa_ HO_777001 BK786))); (case side8 => exact (Kd.R_reads' HO_777001.out).2.1); rintro e w66 ⟨rfl, hb⟩; refine ⟨_, rfl, ?_⟩; replace HO_777000 := Aside0.mk (Kd.R_below (rw_ (fa_ HO_777000 BK786)) hb); replace HO_777001 := Aside0.mk (Kd.R_below (rw_ (fa_ HO_777001 BK786)) hb); replace HO779 := Aside0.mk (Kd.R_below (rw_ (fa_ HO779 BK786)) hb); replace HO782 := Aside0.mk (Kd.R_below (rw_ (fa_ HO782 BK786)) hb); replace HO785 := Aside0.mk (Kd.R_below (rw_ (fa_ HO785 BK786)) hb); replace BK765 := Aside0.mk (blk_below (g := gb765) (o := .cells #[.slice A0_0 l0_0.length c0_0, .slice A0_1 l0_1.length c0_1] 25 (0, 0)) (by (with_reducible repeat (first | refine blk_drewN ?_ _ | refine blk_drew ?_ | refine blk_alloc ?_ _)); refine blk_far ?_ NB765_786.out _; (with_reducible repeat (first | refine blk_drewN ?_ _ | refine blk_drew ?_ | refine blk_alloc ?_ _)); refine blk_far ?_ NB765_786.out _; (with_reducible repeat (first | refine blk_drewN ?_ _ | refine blk_drew ?_ | refine blk_alloc ?_ _)); exact BK765.out) hb); replace BK766 := Aside0.mk (blk_below (g := gb766) (o := .cells #[.slice none 0 0, .slice none 0 0] 25 (0, 0)) (by (with_reducible repeat (first | refine blk_drewN ?_ _ | refine blk_drew ?_ | refine blk_alloc ?_ _)); refine blk_far ?_ NB766_786.out _; (with_reducible repeat (first | refine blk_drewN ?_ _ | refine blk_drew ?_ | refine blk_alloc ?_ _)); refine blk_far ?_ NB766_786.out _; (with_reducible repeat (first | refine blk_drewN ?_ _ | refine blk_drew ?_ | refine blk_alloc ?_ _)); exact BK766.out) hb); replace BK776 := Aside0.mk (blk_below (g := gb776) (o := .cells #[.slice Ao64 x777000_1.length co64, .slice Ao65 x777001_1.length co65] 25 (0, 0)) (by (with_reducible repeat (first | refine blk_drewN ?_ _ | refine blk_drew ?_ | refine blk_alloc ?_ _)); refine blk_far ?_ NB776_786.out _; (with_reducible repeat (first | refine blk_drewN ?_ _ | refine blk_drew ?_ | refine blk_alloc ?_ _)); refine blk_far ?_ NB776_786.out _; (with_reducible repeat (first | refine blk_drewN ?_ _ | refine blk_drew ?_ | refine blk_alloc ?_ _)); exact BK776.out) hb); replace BK786 := Aside0.mk (blk_below (g := gb786) (o := .cells #[.slice Ao54 t780.length co54, .slice Ao56 t783.length co56] 25 (0, 0)) qp_ hb); replace HB := b1_ hb; clear hb))
          go_roundg k1
          case measure => have := HK1.out; omega
          case rel => exact ⟨(wrap64 (x4_1 + 1)), (x777000_1), (x777001_1), (.slice Ao64 x777000_1.length co64), (.slice Ao65 x777001_1.length co65), qc_, H', ⟨by have := HK1.out; omega⟩, ⟨(rw_ (Kd.R_mono HO_777000.out (fun _ hk => hk.2.2.2)))⟩, ⟨(rw_ (Kd.R_mono HO_777001.out (fun _ hk => hk.2.2.2)))⟩, ⟨(kk_ BK765)⟩, ⟨(kk_ BK766)⟩, ⟨(kk_ BK776)⟩, ⟨hB_⟩⟩
      · rw [if_neg c16] at H
        have c16b0 := decide_eq_false c16
        clear c16
        simp only [Option.some.injEq, Prod.mk.injEq] at H
        obtain ⟨rfl, rfl⟩ := H
        have hnb67 := NB765_766.out
        have hnc67 := NB766_765.out
        have hnb68 := NB765_776.out
        have hnc68 := NB776_765.out
        obtain ⟨hcz69_0, hcz69_1, hfz69_0, hfz69_1⟩ := c2_ BK765
        have hnb70 := NB776_766.out
        have hnc70 := NB766_776.out
        obtain ⟨hcz71_0, hcz71_1, hfz71_0, hfz71_1⟩ := c2_ BK776
        obtain ⟨Ao72, co72, eo72⟩ := Kd.R_slice HO_777000.out
        subst eo72
        obtain ⟨hcz73_0, hcz73_1, hfz73_0, hfz73_1⟩ := c2_ BK766
        obtain ⟨Ao74, co74, eo74⟩ := Kd.R_slice HO_777001.out
        subst eo74
        go_wp2
        refine bodyPost_ret (results_cell_row rfl _ _ gb766 25 #[.slice Ao72 x777000_1.length co72, .slice Ao74 x777001_1.length co74] (0, 0) _ rfl qp_ Try.underlying25 rfl (by kernel_rfl)) rfl ?_
        exact ⟨_, _, qb_, (rw_ (fa_ HO_777000 BK766)), (rw_ (fa_ HO_777001 BK766)), hB_⟩
end Go.Proofs.Ytcggfjpnfodbaaa.A
end
section
namespace Go.Proofs.Ytcggfjpnfodbaaa.A
open Go.RowKit Go.Proofs.YtcggfjpnfodbaaaW.PrintWords Go.Proofs.YtcggfjpnfodbaaaW.PrintLast Go.Proofs.YtcggfjpnfodbaaaW.PrintMore
attribute [local go_sem] max2_int min2_int max_two min_two max_three min_three max_four min_four
set_option linter.unusedVariables false
set_option linter.unusedSimpArgs false
def spec_l02Then.l0 : Nat → List Int → List Int → List Int → Int → Int → Option (List Int)
  | 0, _, _, _, _, _ => none
  | k + 1, x1, x5, x9, x10, x11 => if x11 < x10 then (if 0 ≤ x11 then (if x11 < (x9.length : Int) then (if 0 ≤ (rd x9 x11) then (if (rd x9 x11) < (x1.length : Int) then (if x5.length < 17592186044416 then (spec_l02Then.l0 k x1 (x5 ++ [rd x1 (rd x9 x11)]) x9 x10 (wrap64 (x11 + 1))) else (none)) else (none)) else (none)) else (none)) else (none)) else (some x5)
def spec_l02Then.f (k : Nat) (l0 : List Int) (l1 : List Int) : Option (List Int) := spec_l02Then.l0 k l1 (([] : List Int)) l0 (l0.length : Int) 0
theorem spec_l02Then.mono_l : ∀ k, (∀ y0 y1 y2 y3 y4, LeO (spec_l02Then.l0 k y0 y1 y2 y3 y4) (spec_l02Then.l0 (k + 1) y0 y1 y2 y3 y4))
  | 0 => fun _ _ _ _ _ r h => by simp [spec_l02Then.l0] at h
  | k + 1 => by
    have ih0 := spec_l02Then.mono_l k
    · intro y0 y1 y2 y3 y4
      unfold spec_l02Then.l0
      repeat' first|exact ih0 _ _ _ _ _|exact lo_|refine LeO.ite ?_ ?_|refine LeO.bind ?_ (fun _ => ?_)
theorem spec_l02Then.mono : ∀ a0 a1 k, LeO (spec_l02Then.f k a0 a1) (spec_l02Then.f (k + 1) a0 a1) := by
  intro a0 a1 k
  have ih0 := spec_l02Then.mono_l k
  unfold spec_l02Then.f
  repeat' first|exact ih0 _ _ _ _ _|exact lo_|refine LeO.ite ?_ ?_|refine LeO.bind ?_ (fun _ => ?_)
set_option maxHeartbeats 8000000 in
set_option maxRecDepth 100000 in
theorem spec_l02Then.calls (k : Nat) (A0 : Option Addr) (c0 : Nat) (l0 : List Int) (A1 : Option Addr) (c1 : Nat) (l1 : List Int) (r : List Int) (w : World) (hr0 : Kd.C (Kd.int .i64) w A0 l0.length l0) (hc0 : l0.length ≤ c0) (hr1 : Kd.C (Kd.int .i64) w A1 l1.length l1) (hc1 : l1.length ≤ c1) (h : spec_l02Then.f k l0 l1 = some r) :
    Calls Try.prog 154 #[.slice A0 l0.length c0, .slice A1 l1.length c1] w fun e w' => ∃ v0_ : Value, e = .returned (v0_) ∧ Kd.R (Kd.int .i64) 3 w' w.heap.size (fun _ => True) v0_ r ∧ Below w.heap.size w w' := by
  have HR0 := Aside0.mk hr0
  have HC0 := Aside0.mk hc0
  clear hr0 hc0
  have HR1 := Aside0.mk hr1
  have HC1 := Aside0.mk hc1
  clear hr1 hc1
  have HB := Aside0.mk (Below.refl w.heap.size w)
  have H := h
  unfold spec_l02Then.f at H
  clear h
  obtain ⟨y788, hy788⟩ : ∃ y_ : List Int, y_ = (([] : List Int)) := ⟨_, rfl⟩
  replace H : (spec_l02Then.l0 k l1 y788 l0 (l0.length : Int) 0) = some r := by first | (rw [hy788]; exact H) | exact H
  have Ny788 := Aside0.mk hy788
  clear hy788
  have H' := Aside0.mk H
  clear H
  go_enter Try.func154, Try.ntmps154
  go_wp2_with (first | ((with_reducible refine gate_dst (N := 8) rfl ?_); refine Kd.R_lit (Kd.int .i64) _ 3 ?hg (N := 8) ?hd (xs := ([] : List Int)) (inner := []) (ok := fun _ => True) (okp := fun _ => True) ?hr ?hp (fun _ hk => hk) trivial (Below.refl _ _) (Nat.le_refl _) (by simp) ?_; (case hd => rfl); (case hg => rfl); (case hr => first | (go_simp; done) | (go_simp; rfl)); (case hp => exact (Reps.none _ _)); intro v789 w3 ho4 hb hg_ hnew_; clear hg_ hnew_; (first | rw [← Ny788.out] at ho4 | (simp only [Int.reduceToNat] at ho4; rw [← Ny788.out] at ho4)); have HO790 := rl_ w ho4; replace HB := b1_ hb; clear hb ho4))
  go_loopg [5, 11] k (fun kq v5 v11 w' => ∃ (x5_1 : List Int) (x11_1 : Int), v11 = .int .i64 x11_1 ∧ Aside0 (spec_l02Then.l0 kq l1 x5_1 l0 (l0.length : Int) x11_1 = some r) ∧ Aside0 (kq ≤ k) ∧ Aside0 (Kd.R (Kd.int .i64) 3 w' w.heap.size (fun _ => True) v5 x5_1) ∧ Aside0 (Below w.heap.size w w'))
  case atStart => exact ⟨(y788), (0), qc_, H', ⟨Nat.le_refl _⟩, ⟨(rr_ HO790)⟩, ⟨hB_⟩⟩
  case round =>
    clear H'
    obtain ⟨x5_1, x11_1, rfl, HA, HK1, HO_5, HB⟩ := hrel
    cases gk with
    | zero => exact absurd HA.out (by simp [spec_l02Then.l0])
    | succ k1 =>
      have H := HA.out
      clear HA
      simp only [spec_l02Then.l0] at H
      by_cases c5 : x11_1 < (l0.length : Int)
      · rw [if_pos c5] at H
        have c5b0 := decide_eq_true c5
        clear c5
        have c6 := cp_ H
        replace H := ca_ H
        have c6b0 := decide_eq_true c6
        clear c6
        have c7 := cp_ H
        replace H := ca_ H
        have c7b0 := decide_eq_true c7
        clear c7
        have c8 := cp_ H
        replace H := ca_ H
        have c8b0 := decide_eq_true c8
        clear c8
        have c9 := cp_ H
        replace H := ca_ H
        have c9b0 := decide_eq_true c9
        clear c9
        have c10 := cp_ H
        replace H := ca_ H
        have LMc10 := Aside0.mk c10
        clear c10
        obtain ⟨y793, hy793⟩ : ∃ y_ : List Int, y_ = (x5_1 ++ [rd l1 (rd l0 x11_1)]) := ⟨_, rfl⟩
        replace H : (spec_l02Then.l0 k1 l1 y793 l0 (l0.length : Int) (wrap64 (x11_1 + 1))) = some r := by first | (rw [hy793]; exact H) | exact H
        have Ny793 := Aside0.mk hy793
        clear hy793
        have H' := Aside0.mk H
        clear H
        have p791 : 0 ≤ (x11_1 : Int) := of_decide_eq_true qe_
        have q791 : x11_1 < (l0.length : Int) := of_decide_eq_true qe_
        obtain ⟨ad791, e791, hx791_0⟩ := Kd.at_int HR0.out x11_1 p791 q791
        cases e791
        replace hx791_0 := (HB.out.cell (World.block_lt_of_cell? w _ hx791_0)).trans hx791_0
        replace p791 := eq_true p791
        replace q791 := eq_true q791
        have p792 : 0 ≤ ((rd l0 x11_1) : Int) := of_decide_eq_true qe_
        have q792 : (rd l0 x11_1) < (l1.length : Int) := of_decide_eq_true qe_
        obtain ⟨ad792, e792, hx792_0⟩ := Kd.at_int HR1.out (rd l0 x11_1) p792 q792
        cases e792
        replace hx792_0 := (HB.out.cell (World.block_lt_of_cell? w _ hx792_0)).trans hx792_0
        replace p792 := eq_true p792
        replace q792 := eq_true q792
        go_wp2_with (first | ((with_reducible refine gate_builtin (b := .append) (xs := #[.tmp 15, .tmp 20]) rfl ?_); at_builtin; refine Kd.R_append (Kd.int .i64) (w0 := w) w.heap.size rfl (.tmp 15) (.tmp 20) 23 3 (.int .i64 0) 8 rfl Try.underlying23 info3 rfl (by decide) (by omega) u5 x5_1 (rd l1 (rd l0 x11_1)) [.int .i64 (rd l1 (rd l0 x11_1))] (fun _ => True) (fun _ => False) rfl rfl ?aP (fun _ hk => hk.elim) ?aF ?aO ?aB ?aS ?aL ?_; (case aP => exact rfl); (case aB => exact hB_); (case aF => exact (fun _ _ => trivial)); (case aO => exact (rr_ HO_5)); (case aS => exact (below_size hB_)); (case aL => have := LMc10.out; omega); intro v794 w11 ho hb hg hat; rw [← Ny793.out] at ho; replace HB := Aside0.mk hb; have HO795 := Aside0.mk ho; clear HO_5; clear ho hb hg hat))
        go_roundg k1
        case measure => have := HK1.out; omega
        case rel => exact ⟨(y793), (wrap64 (x11_1 + 1)), qc_, H', ⟨by have := HK1.out; omega⟩, ⟨(rr_ HO795)⟩, ⟨hB_⟩⟩
      · rw [if_neg c5] at H
        have c5b0 := decide_eq_false c5
        clear c5
        obtain rfl := Option.some.inj H
        go_wp2
        go_ret
        exact ⟨_, qb_, (rr_ HO_5), hB_⟩
end Go.Proofs.Ytcggfjpnfodbaaa.A
end
