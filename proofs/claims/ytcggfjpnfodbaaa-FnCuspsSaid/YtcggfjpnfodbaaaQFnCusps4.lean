/- Lemmas for the row FnCusps: the program's functions told as plain functions, and plain mathematics. No conditions. -/
import Derived.Test.YtcggfjpnfodbaaaQFnCusps3
section
namespace Go.Proofs.Ytcggfjpnfodbaaa.A
open Go.RowKit Go.Proofs.YtcggfjpnfodbaaaW.PrintWords Go.Proofs.YtcggfjpnfodbaaaW.PrintLast Go.Proofs.YtcggfjpnfodbaaaW.PrintMore
attribute [local go_sem] max2_int min2_int max_two min_two max_three min_three max_four min_four
set_option linter.unusedVariables false
set_option linter.unusedSimpArgs false
mutual
def Z17.l0 : Nat → List (List Int) → List Int → Int → Int → List Int → List Int → Option ((List (S78)) × Bool)
 | 0, _, _, _, _, _, _ => none
 | k + 1, x4, x5, x30, x31, x527000, x527001 => if x31 < x30 then (if 0 ≤ x31 then (if x31 < (x5.length : Int) then (Z17.l0 k x4 (x5.set (x31 : Int).toNat x31) x30 (wrap64 (x31 + 1)) x527000 x527001) else (none)) else (none)) else (Z17.l1 k x4 x5 x4 (x4.length : Int) 0 x527000 x527001)
def Z17.l1 : Nat → List (List Int) → List Int → List (List Int) → Int → Int → List Int → List Int → Option ((List (S78)) × Bool)
 | 0, _, _, _, _, _, _, _ => none
 | k + 1, x4, x5, x39, x40, x41, x527000, x527001 => if x41 < x40 then (if 0 ≤ x41 then (if x41 < (x39.length : Int) then (if 0 < ((rd_L2 x39 x41).length : Int) then ((Z35.f k x527000 x527001 (rd (rd_L2 x39 x41) 0)).bind fun t537 => (if t537 < 0 then (Z17.l1 k x4 x5 x39 x40 (wrap64 (x41 + 1)) x527000 x527001) else ((Z0.f x4 t537).bind fun t538 => (if x41 < (x5.length : Int) then (if 0 ≤ t538 then (if t538 < (x5.length : Int) then (Z17.l2 k x4 x5 (rd x5 x41) (rd x5 t538) x39 x40 x41 (x5.length : Int) 0 x527000 x527001) else (none)) else (none)) else (none))))) else (none)) else (none)) else (none)) else (Z17.l3 k x5 (([] : List (S78))) x4 (x4.length : Int) 0)
def Z17.l2 : Nat → List (List Int) → List Int → Int → Int → List (List Int) → Int → Int → Int → Int → List Int → List Int → Option ((List (S78)) × Bool)
 | 0, _, _, _, _, _, _, _, _, _, _, _ => none
 | k + 1, x4, x5, x11, x12, x39, x40, x41, x65, x66, x527000, x527001 => if x66 < x65 then (if 0 ≤ x66 then (if x66 < (x5.length : Int) then (if (rd x5 x66) = x11 then (Z17.l2 k x4 (x5.set (x66 : Int).toNat (mn x11 x12)) x11 x12 x39 x40 x41 x65 (wrap64 (x66 + 1)) x527000 x527001) else (if (rd x5 x66) = x12 then (Z17.l2 k x4 (x5.set (x66 : Int).toNat (mn x11 x12)) x11 x12 x39 x40 x41 x65 (wrap64 (x66 + 1)) x527000 x527001) else (Z17.l2 k x4 x5 x11 x12 x39 x40 x41 x65 (wrap64 (x66 + 1)) x527000 x527001))) else (none)) else (none)) else (Z17.l1 k x4 x5 x39 x40 (wrap64 (x41 + 1)) x527000 x527001)
def Z17.l3 : Nat → List Int → List (S78) → List (List Int) → Int → Int → Option ((List (S78)) × Bool)
 | 0, _, _, _, _, _ => none
 | k + 1, x5, x14, x92, x93, x94 => if x94 < x93 then (if 0 ≤ x94 then (if x94 < (x92.length : Int) then (if x94 < (x5.length : Int) then (if (rd x5 x94) = x94 then (Z17.l4 k x5 x14 x94 x92 x93 x94 x5 (x5.length : Int) 0 ((rd_L2 x92 x94).length : Int) 0) else (Z17.l3 k x5 x14 x92 x93 (wrap64 (x94 + 1)))) else (none)) else (none)) else (none)) else (some (x14, true))
def Z17.l4 : Nat → List Int → List (S78) → Int → List (List Int) → Int → Int → List Int → Int → Int → Int → Int → Option ((List (S78)) × Bool)
 | 0, _, _, _, _, _, _, _, _, _, _, _ => none
 | k + 1, x5, x14, x15, x92, x93, x94, x108, x109, x110, x551000, x551001 => if x110 < x109 then (if 0 ≤ x110 then (if x110 < (x108.length : Int) then (if (rd x108 x110) = x15 then (Z17.l4 k x5 x14 x15 x92 x93 x94 x108 x109 (wrap64 (x110 + 1)) x551000 (wrap64 (x551001 + 1))) else (Z17.l4 k x5 x14 x15 x92 x93 x94 x108 x109 (wrap64 (x110 + 1)) x551000 x551001)) else (none)) else (none)) else (if x14.length < 8796093022208 then (Z17.l3 k x5 (x14 ++ [(⟨x551000, x551001⟩ : S78)]) x92 x93 (wrap64 (x94 + 1))) else (none))
end
def Z17.f (k : Nat) (l0_0 : List Int) (l0_1 : List Int) : Option ((List (S78)) × Bool) := (Z29.f k l0_0 l0_1).bind fun t527 => (if t527 = true then ((Z34.f k l0_0).bind fun t528 => (if 0 ≤ (t528.length : Int) then (if ((t528.length : Int) : Int).toNat ≤ 35184372088832 then ((some (List.replicate ((t528.length : Int) : Int).toNat 0 : List Int)).bind fun y531 => (Z17.l0 k t528 y531 (y531.length : Int) 0 l0_0 l0_1)) else (none)) else (none))) else (some (([] : List (S78)), false)))
theorem Z17.mono_l : ∀ k, (∀ y0 y1 y2 y3 y4 y5, LeO (Z17.l0 k y0 y1 y2 y3 y4 y5) (Z17.l0 (k + 1) y0 y1 y2 y3 y4 y5)) ∧ (∀ y0 y1 y2 y3 y4 y5 y6, LeO (Z17.l1 k y0 y1 y2 y3 y4 y5 y6) (Z17.l1 (k + 1) y0 y1 y2 y3 y4 y5 y6)) ∧ (∀ y0 y1 y2 y3 y4 y5 y6 y7 y8 y9 y10, LeO (Z17.l2 k y0 y1 y2 y3 y4 y5 y6 y7 y8 y9 y10) (Z17.l2 (k + 1) y0 y1 y2 y3 y4 y5 y6 y7 y8 y9 y10)) ∧ (∀ y0 y1 y2 y3 y4, LeO (Z17.l3 k y0 y1 y2 y3 y4) (Z17.l3 (k + 1) y0 y1 y2 y3 y4)) ∧ (∀ y0 y1 y2 y3 y4 y5 y6 y7 y8 y9 y10, LeO (Z17.l4 k y0 y1 y2 y3 y4 y5 y6 y7 y8 y9 y10) (Z17.l4 (k + 1) y0 y1 y2 y3 y4 y5 y6 y7 y8 y9 y10))
 | 0 => ⟨fun _ _ _ _ _ _ r h => by simp [Z17.l0] at h, fun _ _ _ _ _ _ _ r h => by simp [Z17.l1] at h, fun _ _ _ _ _ _ _ _ _ _ _ r h => by simp [Z17.l2] at h, fun _ _ _ _ _ r h => by simp [Z17.l3] at h, fun _ _ _ _ _ _ _ _ _ _ _ r h => by simp [Z17.l4] at h⟩
 | k + 1 => by
  obtain ⟨ih0, ih1, ih2, ih3, ih4⟩ := Z17.mono_l k
  refine ⟨?_, ?_, ?_, ?_, ?_⟩
  ·intro y0 y1 y2 y3 y4 y5
   unfold Z17.l0
   repeat' first|exact ih0 _ _ _ _ _ _|exact ih1 _ _ _ _ _ _ _|exact ih2 _ _ _ _ _ _ _ _ _ _ _|exact ih3 _ _ _ _ _|exact ih4 _ _ _ _ _ _ _ _ _ _ _|exact Z34.mono _ _|exact Z35.mono _ _ _ _|exact Z29.mono _ _ _|exact lo_|refine LeO.ite ?_ ?_|refine LeO.bind ?_ (fun _ => ?_)
  ·intro y0 y1 y2 y3 y4 y5 y6
   unfold Z17.l1
   repeat' first|exact ih0 _ _ _ _ _ _|exact ih1 _ _ _ _ _ _ _|exact ih2 _ _ _ _ _ _ _ _ _ _ _|exact ih3 _ _ _ _ _|exact ih4 _ _ _ _ _ _ _ _ _ _ _|exact Z34.mono _ _|exact Z35.mono _ _ _ _|exact Z29.mono _ _ _|exact lo_|refine LeO.ite ?_ ?_|refine LeO.bind ?_ (fun _ => ?_)
  ·intro y0 y1 y2 y3 y4 y5 y6 y7 y8 y9 y10
   unfold Z17.l2
   repeat' first|exact ih0 _ _ _ _ _ _|exact ih1 _ _ _ _ _ _ _|exact ih2 _ _ _ _ _ _ _ _ _ _ _|exact ih3 _ _ _ _ _|exact ih4 _ _ _ _ _ _ _ _ _ _ _|exact Z34.mono _ _|exact Z35.mono _ _ _ _|exact Z29.mono _ _ _|exact lo_|refine LeO.ite ?_ ?_|refine LeO.bind ?_ (fun _ => ?_)
  ·intro y0 y1 y2 y3 y4
   unfold Z17.l3
   repeat' first|exact ih0 _ _ _ _ _ _|exact ih1 _ _ _ _ _ _ _|exact ih2 _ _ _ _ _ _ _ _ _ _ _|exact ih3 _ _ _ _ _|exact ih4 _ _ _ _ _ _ _ _ _ _ _|exact Z34.mono _ _|exact Z35.mono _ _ _ _|exact Z29.mono _ _ _|exact lo_|refine LeO.ite ?_ ?_|refine LeO.bind ?_ (fun _ => ?_)
  ·intro y0 y1 y2 y3 y4 y5 y6 y7 y8 y9 y10
   unfold Z17.l4
   repeat' first|exact ih0 _ _ _ _ _ _|exact ih1 _ _ _ _ _ _ _|exact ih2 _ _ _ _ _ _ _ _ _ _ _|exact ih3 _ _ _ _ _|exact ih4 _ _ _ _ _ _ _ _ _ _ _|exact Z34.mono _ _|exact Z35.mono _ _ _ _|exact Z29.mono _ _ _|exact lo_|refine LeO.ite ?_ ?_|refine LeO.bind ?_ (fun _ => ?_)
theorem Z17.mono : ∀ a0 a1 k, LeO (Z17.f k a0 a1) (Z17.f (k + 1) a0 a1) := by
 intro a0 a1 k
 obtain ⟨ih0, ih1, ih2, ih3, ih4⟩ := Z17.mono_l k
 unfold Z17.f
 repeat' first|exact ih0 _ _ _ _ _ _|exact ih1 _ _ _ _ _ _ _|exact ih2 _ _ _ _ _ _ _ _ _ _ _|exact ih3 _ _ _ _ _|exact ih4 _ _ _ _ _ _ _ _ _ _ _|exact Z34.mono _ _|exact Z35.mono _ _ _ _|exact Z29.mono _ _ _|exact lo_|refine LeO.ite ?_ ?_|refine LeO.bind ?_ (fun _ => ?_)
theorem cyl_at0 {w : World} {ad : Addr} {l : List Int} (h : Kd.C (Kd.int .i64) w (some ad) l.length l) (hl : 0 < l.length) : w.cell? ad = some (.int .i64 (rd l 0)) := by
 obtain ⟨ad', e, hx⟩ := Kd.at_int h 0 (by omega) (by omega)
 cases e
 (try rw [show ((0 : Int)).toNat = 0 from rfl] at hx)
 (try rw [Addr.add_zero'] at hx)
 exact hx
theorem cyl_store_step {P : Program} {ops : Array Oper} {o : Oper} {a : Act} {Q : Exit → Act → World → Prop} {Kc : Act → World → Prop} {W w1 : World} (hw : Region.wanted o (yielded ops a.tmps) = true) (hN : o.dst = none) (hrun : (execOp a.eval o).run P W = .ok .skip w1) (h : Kc a w1) : if Region.wanted o (yielded ops a.tmps) = true then Oper.wp P o a W Kc Q else Kc (a.put none undef) W := by
 rw [if_pos hw]
 unfold Oper.wp
 rw [hrun]
 show Kc (a.put o.dst undef) w1
 rw [hN]
 exact h
set_option maxHeartbeats 8000000 in
set_option maxRecDepth 100000 in
theorem Z17.calls (k : Nat) (A0_0 : Option Addr) (c0_0 : Nat) (l0_0 : List Int) (A0_1 : Option Addr) (c0_1 : Nat) (l0_1 : List Int) (r1 : List (S78)) (r2 : Bool) (w : World) (hr0_0 : Kd.C (Kd.int .i64) w A0_0 l0_0.length l0_0) (hc0_0 : l0_0.length ≤ c0_0) (hr0_1 : Kd.C (Kd.int .i64) w A0_1 l0_1.length l0_1) (hc0_1 : l0_1.length ≤ c0_1) (h : Z17.f k l0_0 l0_1 = some (r1, r2)) :
  Calls Try.prog 64 #[.agg #[.slice A0_0 l0_0.length c0_0, .slice A0_1 l0_1.length c0_1]] w fun e w' => ∃ v0_ : Value, e = .returned (.tuple #[v0_, .bool r2]) ∧ Kd.R k78 78 w' w.heap.size (fun _ => True) v0_ r1 ∧ Below w.heap.size w w' := by
 have hu25 := Try.underlying25
 have hu78 := Try.underlying78
 have HR0_0 := A_ hr0_0
 have HC0_0 := A_ hc0_0
 clear hr0_0 hc0_0
 have HR0_1 := A_ hr0_1
 have HC0_1 := A_ hc0_1
 clear hr0_1 hc0_1
 have HB := A_ (Below.refl w.heap.size w)
 have H := h
 unfold Z17.f at H
 clear h
 obtain ⟨t527, A2, H⟩ := bi_ H
 by_cases c3 : t527 = true
 ·subst c3
  rw [if_pos rfl] at H
  obtain ⟨t528, A4, H⟩ := bi_ H
  have c5 := cp_ H
  replace H := ca_ H
  have c5b0 := eq_true c5
  have c5b1 := oC_ c5
  clear c5
  have c6 := cp_ H
  replace H := ca_ H
  have c6b0 := eq_true c6
  have c6b1 := oC_ c6
  clear c6
  obtain ⟨y531, hy531⟩ : ∃ y_ : List Int, y_ = (List.replicate ((t528.length : Int) : Int).toNat 0) := ⟨_, rfl⟩
  replace H : (Z17.l0 k t528 y531 (y531.length : Int) 0 l0_0 l0_1) = some (r1, r2) := by first | (rw [hy531]; exact H) | exact H
  have Ny531 := A_ hy531
  clear hy531
  have H' := A_ H
  clear H
  go_enter Try.func64, Try.ntmps64
  go_wp2_with (first | ((with_reducible refine gB_ (N := 1) rfl ?_); refine bx_ 1 #[.slice A0_0 l0_0.length c0_0, .slice A0_1 l0_1.length c0_1] 25 ?_; intro gb526 hg w7 hbox hb; have BK526 := A_ hbox; have GW526 := gw_ w hg; have GE526 := GW526; replace HB := b1_ hb; clear hb hbox hg; obtain ⟨hcz8_0, hcz8_1, hfz8_0, hfz8_1⟩ := c2_ BK526) | ((with_reducible refine gA_ (f := 66) rfl ?_); refine gL_ (some 21) Try.func66 #[.agg #[.slice A0_0 l0_0.length c0_0, .slice A0_1 l0_1.length c0_1]] rfl qa_ ?_; (with_reducible refine (Z29.calls k _ _ l0_0 _ _ l0_1 true _ (cb_ HR0_0) HC0_0.out (cb_ HR0_1) HC0_1.out A2.out).mono ?_); rintro e w9 ⟨rfl, hb⟩; refine ⟨_, rfl, ?_⟩; replace BK526 := bb_ BK526 hb; replace HB := b1_ hb; clear hb; obtain ⟨hcz10_0, hcz10_1, hfz10_0, hfz10_1⟩ := c2_ BK526) | ((with_reducible refine gA_ (f := 102) rfl ?_); refine gL_ (some 25) Try.func102 #[.slice A0_0 l0_0.length c0_0] rfl qa_ ?_; (with_reducible refine (Z34.calls k _ _ l0_0 t528 _ (cb_ HR0_0) HC0_0.out A4.out).mono ?_); rintro e w11 ⟨v529, rfl, ho0, hb⟩; refine ⟨_, rfl, ?_⟩; have HO530 := A_ (Kd.S_lower ho0 (bF_ hB_)); replace BK526 := bb_ BK526 hb; replace HB := b1_ hb; clear hb ho0; obtain ⟨Ao12, co12, eo12⟩ := Kd.S_slice HO530.out; subst eo12) | ((with_reducible refine gB_ (N := 28) rfl ?_); refine Kd.R_make (Kd.int .i64) _ 3 rfl (N := 28) rfl 23 _ _ rfl (t528.length : Int) rfl rfl Try.underlying23 (.int .i64 0) 8 info3 rfl (by decide) (by omega) 0 (ok := fun _ => True) (okp := fun _ => True) rfl (fun _ hk => hk) trivial (oB_ qe_) (Nat.le_trans (Nat.mul_le_mul_right _ (oB_ qe_ : (t528.length : Int).toNat ≤ 35184372088832)) (by omega)) (Below.refl _ _) (nA_ _) ?_; intro v532 w13 ho14 hb hg_ hnew_; clear hg_ hnew_; (first | rw [← Ny531.out] at ho14 | (simp only [Int.reduceToNat] at ho14; rw [← Ny531.out] at ho14)); replace HO530 := A_ (Kd.S_elder' (ss_ HO530) (Kd.R_base ho14) hb); have HO533 := rl_ w ho14; replace BK526 := bb_ BK526 hb; replace HB := b1_ hb; clear hb ho14; obtain ⟨Ao15, co15, eo15⟩ := Kd.R_slice HO533.out; subst eo15))
  go_loopg [31] k (fun kq v31 w' => ∃ (x5_1 : List Int) (x31_1 : Int), v31 = .int .i64 x31_1 ∧ Aside0 (Z17.l0 kq t528 x5_1 (y531.length : Int) x31_1 l0_0 l0_1 = some (r1, r2)) ∧ Aside0 (kq ≤ k) ∧ Aside0 (Kd.S (Kd.slice 3 (Kd.int .i64)) 23 w' w.heap.size (fun k_ => some k_ ≠ ((.slice Ao15 y531.length co15) : Value).ownBlock) (.slice Ao12 t528.length co12) t528) ∧ Aside0 (Kd.R (Kd.int .i64) 3 w' w.heap.size (fun _ => True) (.slice Ao15 y531.length co15) x5_1) ∧ Aside0 (w'.heap[gb526]? = some (.cells #[(.slice A0_0 l0_0.length c0_0), (.slice A0_1 l0_1.length c0_1)] 25 (0, 0))) ∧ Aside0 (Below w.heap.size w w'))
  case atStart => exact ⟨(y531), (0), qc_, H', ⟨nA_ _⟩, ⟨(sw_ (Kd.S_mono HO530.out (fun _ hk => hk.2)))⟩, ⟨(rr_ HO533)⟩, ⟨(kk_ BK526)⟩, ⟨hB_⟩⟩
  case round =>
   clear H'
   obtain ⟨x5_1, x31_1, rfl, HA, HK1, HO_4, HO_5, BK526, HB⟩ := hrel
   have hl5_1 := (Kd.R_reads' HO_5.out).1
   rw [hl5_1] at HO_5
   (try simp only [hl5_1])
   (try simp only [hl5_1] at BK526)
   (try simp only [hl5_1] at HO_4)
   cases gk with
   | zero => exact absurd HA.out (by simp [Z17.l0])
   | succ k1 =>
    have H := HA.out
    clear HA
    simp only [Z17.l0] at H
    by_cases c16 : x31_1 < (y531.length : Int)
    ·rw [if_pos c16] at H
     have c16b0 := oC_ c16
     clear c16
     have c17 := cp_ H
     replace H := ca_ H
     have c17b0 := oC_ c17
     clear c17
     have c18 := cp_ H
     replace H := ca_ H
     have c18b0 := oC_ c18
     clear c18
     obtain ⟨y534, hy534⟩ : ∃ y_ : List Int, y_ = (x5_1.set (x31_1 : Int).toNat x31_1) := ⟨_, rfl⟩
     replace H : (Z17.l0 k1 t528 y534 (y531.length : Int) (wrap64 (x31_1 + 1)) l0_0 l0_1) = some (r1, r2) := by first | (rw [hy534]; exact H) | exact H
     have Ny534 := A_ hy534
     clear hy534
     have H' := A_ H
     clear H
     have p19 : 0 ≤ (x31_1 : Int) := oB_ qe_
     have q19 : (x31_1 : Int) < ((x5_1.length : Int) : Int) := oB_ qe_
     obtain ⟨go19, co19, eo19, gb19, gl19, cl19, HG19⟩ := Kd.R_form HO_5.out (by omega)
     (first | cases eo19 | (injection eo19 with ea_ en_ ec_; (first | subst ea_ | (injection ea_ with ea_; subst ea_)); subst ec_; clear en_))
     have GB19 := A_ gb19
     have GG19 := A_ HG19
     clear gb19 gl19 HG19
     obtain ⟨hx19_0, hf19_0⟩ := Kd.R_celln 0 HO_5.out (x31_1 : Int) p19 q19
     replace p19 := eq_true p19
     replace q19 := eq_true q19
     have HP20 := Kd.R_putg HO_5.out (x31_1 : Int) x31_1
     go_wp2_with (first | ((with_reducible refine gate_store (t := 3) (p := 37) rfl ?_); refine store_event (t := 3) (p := 37) (v := ?vo_w21) (w1 := (wr.setCell ⟨go19, (x31_1 : Int).toNat, none⟩ (.int .i64 x31_1))) ?hg ?ho ?hn ?hr ?_; (case ho => rfl); (case hg => rfl); (case hn => rfl); (case hr => first | (go_simp; done) | (go_simp; rfl)); intro w21 hw; have hg : wr.grownBy w21 (some go19) := (by rw [hw]; exact HP20.2); have hp_ : Kd.R (Kd.int .i64) 3 w21 w.heap.size (fun _ => True) (.slice (some ⟨go19, 0, none⟩) x5_1.length co15) y534 := (by rw [hw, Ny534.out]; exact HP20.1); clear HP20; replace HO_4 := A_ (Kd.S_after (v := (.slice (some ⟨go19, 0, none⟩) x5_1.length co15)) (v1 := (.slice (some ⟨go19, 0, none⟩) x5_1.length co15)) (ok := (fun _ => True)) (sw_ (Kd.S_mono HO_4.out (fun _ hk => ⟨trivial, hk⟩))) hg (.inl rfl)); replace BK526 := A_ (blk_grown (kk_ BK526) hg (Kd.R_ne HO_5.out BK526.out (by decide))); replace HO_5 := A_ (hp_); replace HB := A_ ((by rw [hw]; exact bD_ (HB.out) GB19.out : Below w.heap.size w w21)); clear hg hw hp_))
     (try simp only [← hl5_1])
     go_roundg k1
     case measure => have := HK1.out; omega
     case rel => exact ⟨(y534), (wrap64 (x31_1 + 1)), qc_, H', ⟨by have := HK1.out; omega⟩, ⟨by (try simp only [hl5_1]); (with_reducible repeat (first | apply Kd.S_alloc | apply Kd.S_drewN | apply Kd.S_drew)); exact Kd.S_mono HO_4.out (fun _ hk => hk.2)⟩, ⟨by (try simp only [hl5_1]); (with_reducible repeat (first | apply rA_ | apply rB_ | apply rC_)); exact HO_5.out⟩, ⟨by (try simp only [hl5_1]); (with_reducible repeat (first | refine kA_ ?_ _ | refine kB_ ?_ | refine kC_ ?_ _)); exact BK526.out⟩, ⟨hB_⟩⟩
    ·rw [if_neg c16] at H
     have c16b0 := oD_ c16
     (try simp only [hl5_1] at c16b0)
     clear c16
     have H' := A_ H
     clear H
     go_wp2
     go_loopg [41] k1 (fun kq v41 w' => ∃ (x5_2 : List Int) (x41_2 : Int), v41 = .int .i64 x41_2 ∧ Aside0 (Z17.l1 kq t528 x5_2 t528 (t528.length : Int) x41_2 l0_0 l0_1 = some (r1, r2)) ∧ Aside0 (kq ≤ k1) ∧ Aside0 (Kd.S (Kd.slice 3 (Kd.int .i64)) 23 w' w.heap.size (fun k_ => some k_ ≠ ((.slice Ao15 x5_1.length co15) : Value).ownBlock) (.slice Ao12 t528.length co12) t528) ∧ Aside0 (Kd.R (Kd.int .i64) 3 w' w.heap.size (fun _ => True) (.slice Ao15 x5_1.length co15) x5_2) ∧ Aside0 (Kd.S (Kd.slice 3 (Kd.int .i64)) 23 w' w.heap.size (fun k_ => some k_ ≠ ((.slice Ao15 x5_1.length co15) : Value).ownBlock) (.slice Ao12 t528.length co12) t528) ∧ Aside0 (w'.heap[gb526]? = some (.cells #[(.slice A0_0 l0_0.length c0_0), (.slice A0_1 l0_1.length c0_1)] 25 (0, 0))) ∧ Aside0 (Below w.heap.size w w'))
     case atStart => exact ⟨(x5_1), (0), qc_, H', ⟨nA_ _⟩, ⟨by (try simp only [hl5_1]); (with_reducible repeat (first | apply Kd.S_alloc | apply Kd.S_drewN | apply Kd.S_drew)); exact HO_4.out⟩, ⟨by (try simp only [hl5_1]); (with_reducible repeat (first | apply rA_ | apply rB_ | apply rC_)); exact HO_5.out⟩, ⟨by (try simp only [hl5_1]); (with_reducible repeat (first | apply Kd.S_alloc | apply Kd.S_drewN | apply Kd.S_drew)); exact HO_4.out⟩, ⟨by (try simp only [hl5_1]); (with_reducible repeat (first | refine kA_ ?_ _ | refine kB_ ?_ | refine kC_ ?_ _)); exact BK526.out⟩, ⟨hB_⟩⟩
     case round =>
      clear H'
      obtain ⟨x5_2, x41_2, rfl, HA, HK2, HO_4, HO_5, HO_39, BK526, HB⟩ := hrel
      have hl5_2 := (Kd.R_reads' HO_5.out).1
      rw [hl5_2] at HO_5
      (try simp only [hl5_2])
      (try simp only [hl5_2] at BK526)
      (try simp only [hl5_2] at HO_4)
      (try simp only [hl5_2] at HO_39)
      cases gk with
      | zero => exact absurd HA.out (by simp [Z17.l1])
      | succ k2 =>
       have H := HA.out
       clear HA
       simp only [Z17.l1] at H
       by_cases c22 : x41_2 < (t528.length : Int)
       ·rw [if_pos c22] at H
        have c22b0 := oC_ c22
        clear c22
        have c23 := cp_ H
        replace H := ca_ H
        have c23b0 := oC_ c23
        clear c23
        have c24 := cp_ H
        replace H := ca_ H
        have c24b0 := oC_ c24
        clear c24
        have c25 := cp_ H
        replace H := ca_ H
        have c25b0 := oC_ c25
        have c25b1 : decide (0 < (rd_L2 t528 x41_2).length) = true := oC_ (by omega)
        clear c25
        obtain ⟨t537, A26, H⟩ := bi_ H
        have p535 : 0 ≤ (x41_2 : Int) := oB_ qe_
        have q535 : x41_2 < (t528.length : Int) := oB_ qe_
        obtain ⟨ad535, A535_0, c535_0, e535, hx535_0, hl535_0, hi535_0⟩ := at_L2 (Kd.S_reads' HO_39.out).2.2 x41_2 p535 q535
        cases e535
        obtain ⟨ce535, hce535, hMe535, hcc535⟩ := Kd.S_get HO_39.out [] x41_2 p535 (by first | exact q535 | exact oB_ qe_ | (have e_ := (Kd.S_reads' HO_39.out).1; omega))
        obtain ⟨ve535_0, rfl, ge535_0⟩ := hMe535
        have hv535_0 := hcc535 0 _ rfl
        rw [Nat.add_zero, show ((Kd.slice 3 (Kd.int .i64))).sz = 1 from rfl, Nat.mul_one] at hv535_0
        replace hv535_0 := Option.some.inj (hv535_0.symm.trans hx535_0)
        rw [hv535_0] at ge535_0
        have HL535_0 := A_ (show Kd.R (Kd.int .i64) 3 _ _ _ _ (rd_L2 t528 x41_2) from ge535_0)
        clear hv535_0 ge535_0
        clear hcc535 hce535
        have HR535_0 := A_ hi535_0
        have HC535_0 := A_ hl535_0
        clear hi535_0 hl535_0
        replace p535 := eq_true p535
        replace q535 := eq_true q535
        obtain ⟨hcz28_0, hcz28_1, hfz28_0, hfz28_1⟩ := c2_ BK526
        have p536 : 0 ≤ (0 : Int) := (by omega)
        have q536 : 0 < ((rd_L2 t528 x41_2).length : Int) := oB_ qe_
        obtain ⟨ad536, e536, hx536_0⟩ := Kd.at_int (by repeat (first | (with_reducible exact HR535_0.out) | (with_reducible refine cA_ ?_ _) | (with_reducible refine cB_ ?_ _) | (with_reducible refine cC_ ?_) | exact HR535_0.out)) 0 p536 q536
        cases e536
        have qi536 : (0 < (rd_L2 t528 x41_2).length) = True := eq_true (by omega)
        (try rw [show ((0 : Int)).toNat = 0 from rfl] at hx536_0)
        (try rw [Addr.add_zero'] at hx536_0)
        replace p536 := eq_true p536
        replace q536 := eq_true q536
        go_upto_region 13 with (fail)
        replace HO_4 := A_ (Kd.S_drew HO_4.out)
        replace HO_5 := A_ (rC_ HO_5.out)
        replace HO_39 := A_ (Kd.S_drew HO_39.out)
        replace HL535_0 := A_ (rC_ HL535_0.out)
        replace BK526 := A_ (kB_ BK526.out)
        replace HR535_0 := A_ (cC_ HR535_0.out)
        replace HB := A_ (bC_ HB.out)
        have hqr_ : 0 < (rd_L2 t528 x41_2).length := of_eq_true qi536
        refine start_ (n := 7) (S := fun w' => w'.cell? ⟨gb526, 0, none⟩ = some (.slice A0_0 l0_0.length c0_0) ∧ w'.cell? ⟨gb526, 1, none⟩ = some (.slice A0_1 l0_1.length c0_1) ∧ w'.cell? ad536 = some (.int .i64 (rd (rd_L2 t528 x41_2) 0))) (ds := []) (bl_ 7 0) (by kernel_rfl) rfl (by kernel_rfl) ⟨cz0_ BK526, cz1_ BK526, cyl_at0 HR535_0.out hqr_⟩ (fun hHeld => ?_)
        generalize hwd_ : wr.drew = wd_ at HO_4 HO_5 HO_39 HL535_0 BK526 HR535_0 HB hHeld ⊢
        clear hwd_
        refine pure_ (i := 1) (N := some 47) (v := ?_) (a' := ?_) (bl_ 7 2) rfl rfl (by kernel_rfl) (fun _ _ _ h => h) (Or.inl ⟨by rfl, ?_⟩) ?_ ?_
        rotate_left
        ·intro w'
         go_simp
         with_reducible rfl
        rotate_left
        ·simp only [Act.put, sA_, sB_, sC_, i64_w, i32_w]
         rfl
        refine pure_ (i := 2) (N := some 48) (v := ?_) (a' := ?_) (bl_ 7 6) rfl rfl (by kernel_rfl) (fun _ _ _ h => h) (Or.inl ⟨by rfl, ?_⟩) ?_ ?_
        rotate_left
        ·intro w'
         go_simp
         with_reducible rfl
        rotate_left
        ·simp only [Act.put, sA_, sB_, sC_, i64_w, i32_w]
         rfl
        refine take_ (i := 0) (N := some 46) (v := ?_) (a' := ?_) (bl_ 7 7) rfl rfl (by kernel_rfl) (fun _ _ _ h => h) (Or.inl ⟨by rfl, ?_⟩) hHeld ?_ ?_
        rotate_left
        ·rintro w' ⟨s0, s1, s2⟩
         go_simp
         with_reducible rfl
        rotate_left
        ·simp only [Act.put, sA_, sB_, sC_, i64_w, i32_w]
         rfl
        refine take_ (i := 3) (N := some 49) (v := ?_) (a' := ?_) (bl_ 7 15) rfl rfl (by kernel_rfl) (fun _ _ _ h => h) (Or.inl ⟨by rfl, ?_⟩) hHeld ?_ ?_
        rotate_left
        ·rintro w' ⟨s0, s1, s2⟩
         go_simp
         with_reducible rfl
        rotate_left
        ·simp only [Act.put, sA_, sB_, sC_, i64_w, i32_w]
         rfl
        have hBW_ := Below.refl wd_.heap.size wd_
        refine join_ (σ := Nat) 1 (bl_ 7 63) (fun s_ => [(50, .int .i64 t537), (9, .pointer (some ⟨s_, 0, none⟩))]) (fun s_ w' => (w'.cell? ⟨gb526, 0, none⟩ = some (.slice A0_0 l0_0.length c0_0) ∧ w'.cell? ⟨gb526, 1, none⟩ = some (.slice A0_1 l0_1.length c0_1) ∧ w'.cell? ad536 = some (.int .i64 (rd (rd_L2 t528 x41_2) 0))) ∧ Below wd_.heap.size wd_ w' ∧ w'.heap[s_]? = some (.cells #[.int .i64 0] 3 (0, 0)) ∧ wd_.heap.size ≤ s_) ?_ ?_
        rotate_left
        ·intro hCont
         refine two_ (i := 4) (j := 5) (Ni := some 50) (Nj := some 9) (bl_ 7 31) (bl_ 7 47) rfl rfl rfl rfl (by kernel_rfl) (by decide) (by decide) (fun K hK => ?_) (fun K hK => ?_)
         ·refine gO_ Try.func103 #[.agg #[.slice A0_0 l0_0.length c0_0, .slice A0_1 l0_1.length c0_1], .int .i64 (rd (rd_L2 t528 x41_2) 0)] (by rfl) rfl rfl (by (try simp only [mA_, mB_, mC_]); first | done | rfl) ?_
          with_reducible refine (Z35.calls k2 _ _ l0_0 _ _ l0_1 (rd (rd_L2 t528 x41_2) 0) t537 _ ?side1 ?side2 ?side3 ?side4 A26.out).mono ?_
          (case side1 => exact cb_ HR0_0); (case side2 => exact HC0_0.out); (case side3 => exact cb_ HR0_1); (case side4 => exact HC0_1.out)
          rintro e wc_ ⟨rfl, hb⟩
          refine ⟨_, rfl, ?_⟩
          refine hK.out _ _ ⟨(blk_cell (kE_ BK526.out hb) 0).trans rfl, (blk_cell (kE_ BK526.out hb) 1).trans rfl, cyl_at0 (cD_ HR535_0.out hb) hqr_⟩ (fun hHeld => ?_)
          refine no_ (some 50) ?_
          refine one_ (i := 5) (N := some 9) (bl_ 7 63) rfl rfl (by kernel_rfl) (by decide) (fun K hK => ?_)
          refine box_step ?hg (N := 9) ?hd (cs := #[.int .i64 0]) (t := 3) ?hr ?_; (case hd => rfl); (case hg => rfl); (case hr => first | (go_simp; done) | (go_simp; rfl))
          intro gx_ hgx_ wa_ hbx_ hba_
          have hbb_ := bE_ hb hba_
          refine hK.out _ _ ⟨(blk_cell (kE_ BK526.out hbb_) 0).trans rfl, (blk_cell (kE_ BK526.out hbb_) 1).trans rfl, cyl_at0 (cD_ HR535_0.out hbb_) hqr_⟩ (fun hHeld => ?_)
          refine no_ (some 9) ?_
          exact norm_ (by simp only [putAll, Act.put, sA_, sB_, sC_]) (hCont gx_ _ ⟨⟨(blk_cell (kE_ BK526.out hbb_) 0).trans rfl, (blk_cell (kE_ BK526.out hbb_) 1).trans rfl, cyl_at0 (cD_ HR535_0.out hbb_) hqr_⟩, hbb_, hbx_, (by rw [hgx_]; exact hb.size)⟩)
         ·refine box_step ?hg (N := 9) ?hd (cs := #[.int .i64 0]) (t := 3) ?hr ?_; (case hd => rfl); (case hg => rfl); (case hr => first | (go_simp; done) | (go_simp; rfl))
          intro gx_ hgx_ wa_ hbx_ hba_
          refine hK.out _ _ ⟨(blk_cell (kE_ BK526.out hba_) 0).trans rfl, (blk_cell (kE_ BK526.out hba_) 1).trans rfl, cyl_at0 (cD_ HR535_0.out hba_) hqr_⟩ (fun hHeld => ?_)
          refine no_ (some 9) ?_
          refine one_ (i := 4) (N := some 50) (bl_ 7 63) rfl rfl (by kernel_rfl) (by decide) (fun K hK => ?_)
          have HB0_ := HB
          replace HB := A_ (bE_ HB.out hba_)
          refine gO_ Try.func103 #[.agg #[.slice A0_0 l0_0.length c0_0, .slice A0_1 l0_1.length c0_1], .int .i64 (rd (rd_L2 t528 x41_2) 0)] (by rfl) rfl rfl (by (try simp only [mA_, mB_, mC_]); first | done | rfl) ?_
          with_reducible refine (Z35.calls k2 _ _ l0_0 _ _ l0_1 (rd (rd_L2 t528 x41_2) 0) t537 _ ?side1 ?side2 ?side3 ?side4 A26.out).mono ?_
          (case side1 => exact cb_ HR0_0); (case side2 => exact HC0_0.out); (case side3 => exact cb_ HR0_1); (case side4 => exact HC0_1.out)
          rintro e wc_ ⟨rfl, hb⟩
          refine ⟨_, rfl, ?_⟩
          have hbb_ := bE_ hba_ hb
          refine hK.out _ _ ⟨(blk_cell (kE_ BK526.out hbb_) 0).trans rfl, (blk_cell (kE_ BK526.out hbb_) 1).trans rfl, cyl_at0 (cD_ HR535_0.out hbb_) hqr_⟩ (fun hHeld => ?_)
          refine no_ (some 50) ?_
          exact norm_ (by simp only [putAll, Act.put, sA_, sB_, sC_]) (hCont gx_ _ ⟨⟨(blk_cell (kE_ BK526.out hbb_) 0).trans rfl, (blk_cell (kE_ BK526.out hbb_) 1).trans rfl, cyl_at0 (cD_ HR535_0.out hbb_) hqr_⟩, hbb_, (kE_ hbx_ hb), (by rw [hgx_]; exact nA_ _)⟩)
        rintro gx_ wj_ ⟨hHeld, hb, hgx_, hge_⟩
        refine norm_ (a' := ?_) ?_ ?_
        rotate_left
        ·simp only [putAll, Act.put, sA_, sB_, sC_]
         rfl
        refine one_ (i := 6) (N := none) (bl_ 7 127) rfl rfl (by kernel_rfl) (by decide) (fun K hK => ?_)
        have hcgx_ : wj_.cell? ⟨gx_, 0, none⟩ = some (.int .i64 0) := (blk_cell hgx_ 0).trans rfl
        have hfgx_ := kD_ hgx_ 0
        refine cyl_store_step (w1 := wj_.setCell ⟨gx_, 0, none⟩ (.int .i64 t537)) ?hg ?hn ?hr ?_; (case hg => rfl); (case hn => rfl); (case hr => first | (go_simp; done) | (go_simp; rfl))
        have hb2_ : Below wd_.heap.size wd_ (wj_.setCell ⟨gx_, 0, none⟩ (.int .i64 t537)) := bD_ hb hge_
        have HXX := A_ (blk_put (cs := #[.int .i64 0]) (cs' := #[.int .i64 t537]) hgx_ 0 (.int .i64 t537) rfl)
        clear hcgx_ hfgx_ hgx_ hb hHeld
        generalize wj_.setCell ⟨gx_, 0, none⟩ (.int .i64 t537) = ws_ at hb2_ HXX ⊢
        refine hK.out _ _ ⟨(blk_cell (kE_ BK526.out hb2_) 0).trans rfl, (blk_cell (kE_ BK526.out hb2_) 1).trans rfl, cyl_at0 (cD_ HR535_0.out hb2_) hqr_⟩ (fun hHeld => ?_)
        refine done_ (by kernel_rfl) ?_
        have hb := hb2_
        clear hK K hb2_ hHeld hBW_
        replace HO_4 := sb_ HO_4 hb; replace HO_5 := rb_ HO_5 hb; replace HO_39 := sb_ HO_39 hb; replace HL535_0 := rb_ HL535_0 hb; replace BK526 := bb_ BK526 hb; replace HR535_0 := A_ (cD_ (by repeat (first | (with_reducible exact HR535_0.out) | (with_reducible refine cA_ ?_ _) | (with_reducible refine cB_ ?_ _) | (with_reducible refine cC_ ?_) | exact HR535_0.out)) hb); replace HB := b1_ hb; (try clear hb); (try clear hb2); (try clear hk); (try clear hi)
        have hcgx_ : ws_.cell? ⟨gx_, 0, none⟩ = some (.int .i64 t537) := (blk_cell HXX.out 0).trans rfl
        by_cases c27 : t537 < 0
        ·rw [if_pos c27] at H
         have c27b0 := oC_ c27
         clear c27
         have H' := A_ H
         clear H
         go_wp2
         (try simp only [← hl5_2])
         go_roundg k2
         case measure => have := HK1.out; have := HK2.out; omega
         case rel => exact ⟨(x5_2), (wrap64 (x41_2 + 1)), qc_, H', ⟨by have := HK1.out; have := HK2.out; omega⟩, ⟨by (try simp only [hl5_1]); (try simp only [hl5_2]); (with_reducible repeat (first | apply Kd.S_alloc | apply Kd.S_drewN | apply Kd.S_drew)); exact HO_4.out⟩, ⟨by (try simp only [hl5_1]); (try simp only [hl5_2]); (with_reducible repeat (first | apply rA_ | apply rB_ | apply rC_)); exact HO_5.out⟩, ⟨by (try simp only [hl5_1]); (try simp only [hl5_2]); (with_reducible repeat (first | apply Kd.S_alloc | apply Kd.S_drewN | apply Kd.S_drew)); exact HO_39.out⟩, ⟨by (try simp only [hl5_1]); (try simp only [hl5_2]); (with_reducible repeat (first | refine kA_ ?_ _ | refine kB_ ?_ | refine kC_ ?_ _)); exact BK526.out⟩, ⟨hB_⟩⟩
        ·rw [if_neg c27] at H
         have c27b0 := oD_ c27
         clear c27
         obtain ⟨t538, A30, H⟩ := bi_ H
         have c31 := cp_ H
         replace H := ca_ H
         have c31b0 := oC_ c31
         clear c31
         have c32 := cp_ H
         replace H := ca_ H
         have c32b0 := oC_ c32
         clear c32
         have c33 := cp_ H
         replace H := ca_ H
         have c33b0 := oC_ c33
         clear c33
         have H' := A_ H
         clear H
         go_wp2_with (first | ((with_reducible refine gA_ (f := 104) rfl ?_); refine gL_ (some 55) Try.func104 #[.slice (some ad535) t528.length co12, .func (.func 105) #[] #[.pointer (some ⟨gx_, 0, none⟩)]] rfl qa_ ?_; (with_reducible refine (Z0.calls gx_ _ _ t528 t537 t538 _ ?side1 ?side2 ?side3 A30.out).mono ?_); (case side1 => exact cw_ ((Kd.S_reads' HO_4.out).2.2)); (case side2 => exact (Kd.S_reads' HO_4.out).2.1); (case side3 => (with_reducible repeat (first | refine kA_ ?_ _ | refine kB_ ?_ | refine kC_ ?_ _)); exact HXX.out); clear hcgx_; rintro e w36 ⟨rfl, hb⟩; refine ⟨_, rfl, ?_⟩; replace HO_4 := sb_ HO_4 hb; replace HO_5 := rb_ HO_5 hb; replace HO_39 := sb_ HO_39 hb; replace HL535_0 := rb_ HL535_0 hb; replace BK526 := bb_ BK526 hb; replace HR535_0 := A_ (cD_ (by repeat (first | (with_reducible exact HR535_0.out) | (with_reducible refine cA_ ?_ _) | (with_reducible refine cB_ ?_ _) | (with_reducible refine cC_ ?_) | exact HR535_0.out)) hb); replace HB := b1_ hb; clear hb; have p539 : 0 ≤ (x41_2 : Int) := oB_ qe_; have q539 : x41_2 < (x5_2.length : Int) := oB_ qe_; obtain ⟨ad539, e539, hx539_0⟩ := Kd.at_int (Kd.R_reads' HO_5.out).2.2 x41_2 p539 q539; cases e539; replace p539 := eq_true p539; replace q539 := eq_true q539; have p540 : 0 ≤ (t538 : Int) := oB_ qe_; have q540 : t538 < (x5_2.length : Int) := oB_ qe_; obtain ⟨ad540, e540, hx540_0⟩ := Kd.at_int (Kd.R_reads' HO_5.out).2.2 t538 p540 q540; obtain rfl : ad539 = ad540 := (by injection e540); replace p540 := eq_true p540; replace q540 := eq_true q540))
         generalize Value.pointer (some (ad539.add (x41_2 : Int).toNat)) = vp0_
         generalize Value.pointer (some (ad539.add (t538 : Int).toNat)) = vp1_
         go_loopg [66] k2 (fun kq v66 w' => ∃ (x5_3 : List Int) (x66_3 : Int), v66 = .int .i64 x66_3 ∧ Aside0 (Z17.l2 kq t528 x5_3 (rd x5_2 x41_2) (rd x5_2 t538) t528 (t528.length : Int) x41_2 (x5_2.length : Int) x66_3 l0_0 l0_1 = some (r1, r2)) ∧ Aside0 (kq ≤ k2) ∧ Aside0 (Kd.S (Kd.slice 3 (Kd.int .i64)) 23 w' w.heap.size (fun k_ => some k_ ≠ ((.slice (some ad539) x5_2.length co15) : Value).ownBlock) (.slice (some ad535) t528.length co12) t528) ∧ Aside0 (Kd.R (Kd.int .i64) 3 w' w.heap.size (fun _ => True) (.slice (some ad539) x5_2.length co15) x5_3) ∧ Aside0 (Kd.S (Kd.slice 3 (Kd.int .i64)) 23 w' w.heap.size (fun k_ => some k_ ≠ ((.slice (some ad539) x5_2.length co15) : Value).ownBlock) (.slice (some ad535) t528.length co12) t528) ∧ Aside0 (w'.heap[gb526]? = some (.cells #[(.slice A0_0 l0_0.length c0_0), (.slice A0_1 l0_1.length c0_1)] 25 (0, 0))) ∧ Aside0 (Below w.heap.size w w'))
         case atStart => exact ⟨(x5_2), (0), qc_, H', ⟨nA_ _⟩, ⟨by (try simp only [hl5_1]); (try simp only [hl5_2]); (with_reducible repeat (first | apply Kd.S_alloc | apply Kd.S_drewN | apply Kd.S_drew)); exact HO_4.out⟩, ⟨by (try simp only [hl5_1]); (try simp only [hl5_2]); (with_reducible repeat (first | apply rA_ | apply rB_ | apply rC_)); exact HO_5.out⟩, ⟨by (try simp only [hl5_1]); (try simp only [hl5_2]); (with_reducible repeat (first | apply Kd.S_alloc | apply Kd.S_drewN | apply Kd.S_drew)); exact HO_39.out⟩, ⟨by (try simp only [hl5_1]); (try simp only [hl5_2]); (with_reducible repeat (first | refine kA_ ?_ _ | refine kB_ ?_ | refine kC_ ?_ _)); exact BK526.out⟩, ⟨hB_⟩⟩
         case round =>
          clear H'
          obtain ⟨x5_3, x66_3, rfl, HA, HK3, HO_4, HO_5, HO_39, BK526, HB⟩ := hrel
          have hl5_3 := (Kd.R_reads' HO_5.out).1
          rw [hl5_3] at HO_5
          (try simp only [hl5_3])
          (try simp only [hl5_3] at BK526)
          (try simp only [hl5_3] at HO_4)
          (try simp only [hl5_3] at HO_39)
          cases gk with
          | zero => exact absurd HA.out (by simp [Z17.l2])
          | succ k3 =>
           have H := HA.out
           clear HA
           simp only [Z17.l2] at H
           by_cases c37 : x66_3 < (x5_2.length : Int)
           ·rw [if_pos c37] at H
            have c37b0 := oC_ c37
            clear c37
            have c38 := cp_ H
            replace H := ca_ H
            have c38b0 := oC_ c38
            clear c38
            have c39 := cp_ H
            replace H := ca_ H
            have c39b0 := oC_ c39
            clear c39
            by_cases c40 : (rd x5_3 x66_3) = (rd x5_2 x41_2)
            ·rw [if_pos c40] at H
             have c40b0 : ((rd x5_3 x66_3) == (rd x5_2 x41_2)) = true := beq_iff_eq.mpr c40
             have c40b1 : ((rd x5_3 x66_3) != (rd x5_2 x41_2)) = false := bne_eq_false_iff_eq.mpr c40
             clear c40
             obtain ⟨ji41, hji41⟩ : ∃ j_ : Int, (mn (rd x5_2 x41_2) (rd x5_2 t538)) = j_ := ⟨_, rfl⟩
             replace H : (Z17.l2 k3 t528 (x5_3.set (x66_3 : Int).toNat (ji41)) (rd x5_2 x41_2) (rd x5_2 t538) t528 (t528.length : Int) x41_2 (x5_2.length : Int) (wrap64 (x66_3 + 1)) l0_0 l0_1) = some (r1, r2) := by first | (rw [hji41] at H; exact H) | (simp only [hji41] at H ⊢; exact H)
             have hji41_ : (if (rd x5_2 t538) < (rd x5_2 x41_2) then (rd x5_2 t538) else (rd x5_2 x41_2)) = ji41 := hji41
             obtain ⟨y542, hy542⟩ : ∃ y_ : List Int, y_ = (x5_3.set (x66_3 : Int).toNat (ji41)) := ⟨_, rfl⟩
             replace H : (Z17.l2 k3 t528 y542 (rd x5_2 x41_2) (rd x5_2 t538) t528 (t528.length : Int) x41_2 (x5_2.length : Int) (wrap64 (x66_3 + 1)) l0_0 l0_1) = some (r1, r2) := by first | (rw [hy542]; exact H) | exact H
             have Ny542 := A_ hy542
             clear hy542
             have H' := A_ H
             clear H
             have p541 : 0 ≤ (x66_3 : Int) := oB_ qe_
             have q541 : x66_3 < (x5_3.length : Int) := oB_ qe_
             obtain ⟨ad541, e541, hx541_0⟩ := Kd.at_int (Kd.R_reads' HO_5.out).2.2 x66_3 p541 q541
             obtain rfl : ad539 = ad541 := (by injection e541)
             replace p541 := eq_true p541
             replace q541 := eq_true q541
             have p42 : 0 ≤ (x66_3 : Int) := oB_ qe_
             have q42 : (x66_3 : Int) < ((x5_3.length : Int) : Int) := oB_ qe_
             obtain ⟨go42, co42, eo42, gb42, gl42, cl42, HG42⟩ := Kd.R_form HO_5.out (by omega)
             (first | cases eo42 | (injection eo42 with ea_ en_ ec_; (first | subst ea_ | (injection ea_ with ea_; subst ea_)); subst ec_; clear en_))
             have GB42 := A_ gb42
             have GG42 := A_ HG42
             clear gb42 gl42 HG42
             (first | simp only [add_plain] at hx539_0 | skip)
             (first | simp only [add_plain] at hx540_0 | skip)
             (first | simp only [add_plain] at hx541_0 | skip)
             obtain ⟨hx42_0, hf42_0⟩ := Kd.R_celln 0 HO_5.out (x66_3 : Int) p42 q42
             replace p42 := eq_true p42
             replace q42 := eq_true q42
             have HP43 := Kd.R_putg HO_5.out (x66_3 : Int) ji41
             go_wp2_with (first | ((with_reducible refine gate_store (t := 3) (p := 88) rfl ?_); refine store_event (t := 3) (p := 88) (v := ?vo_w44) (w1 := (wr.setCell ⟨go42, (x66_3 : Int).toNat, none⟩ (.int .i64 ji41))) ?hg ?ho ?hn ?hr ?_; (case ho => rfl); (case hg => rfl); (case hn => rfl); (case hr => first | (go_simp; done) | (go_simp; rfl)); intro w44 hw; have hg : wr.grownBy w44 (some go42) := (by rw [hw]; exact HP43.2); have hp_ : Kd.R (Kd.int .i64) 3 w44 w.heap.size (fun _ => True) (.slice (some ⟨go42, 0, none⟩) x5_3.length co15) y542 := (by rw [hw, Ny542.out]; exact HP43.1); clear HP43; replace HO_4 := A_ (Kd.S_after (v := (.slice (some ⟨go42, 0, none⟩) x5_3.length co15)) (v1 := (.slice (some ⟨go42, 0, none⟩) x5_3.length co15)) (ok := (fun _ => True)) (sw_ (Kd.S_mono HO_4.out (fun _ hk => ⟨trivial, hk⟩))) hg (.inl rfl)); replace HO_39 := A_ (Kd.S_after (v := (.slice (some ⟨go42, 0, none⟩) x5_3.length co15)) (v1 := (.slice (some ⟨go42, 0, none⟩) x5_3.length co15)) (ok := (fun _ => True)) (sw_ (Kd.S_mono HO_39.out (fun _ hk => ⟨trivial, hk⟩))) hg (.inl rfl)); replace BK526 := A_ (blk_grown (kk_ BK526) hg (Kd.R_ne HO_5.out BK526.out (by decide))); replace HO_5 := A_ (hp_); replace HB := A_ ((by rw [hw]; exact bD_ (HB.out) GB42.out : Below w.heap.size w w44)); clear hg hw hp_))
             (try simp only [← hl5_3])
             go_roundg k3
             case measure => have := HK1.out; have := HK2.out; have := HK3.out; omega
             case rel => exact ⟨(y542), (wrap64 (x66_3 + 1)), qc_, H', ⟨by have := HK1.out; have := HK2.out; have := HK3.out; omega⟩, ⟨by (try simp only [hl5_1]); (try simp only [hl5_2]); (try simp only [hl5_3]); (with_reducible repeat (first | apply Kd.S_alloc | apply Kd.S_drewN | apply Kd.S_drew)); exact Kd.S_mono HO_4.out (fun _ hk => hk.2)⟩, ⟨by (try simp only [hl5_1]); (try simp only [hl5_2]); (try simp only [hl5_3]); (with_reducible repeat (first | apply rA_ | apply rB_ | apply rC_)); exact HO_5.out⟩, ⟨by (try simp only [hl5_1]); (try simp only [hl5_2]); (try simp only [hl5_3]); (with_reducible repeat (first | apply Kd.S_alloc | apply Kd.S_drewN | apply Kd.S_drew)); exact Kd.S_mono HO_39.out (fun _ hk => hk.2)⟩, ⟨by (try simp only [hl5_1]); (try simp only [hl5_2]); (try simp only [hl5_3]); (with_reducible repeat (first | refine kA_ ?_ _ | refine kB_ ?_ | refine kC_ ?_ _)); exact BK526.out⟩, ⟨hB_⟩⟩
            ·rw [if_neg c40] at H
             have c40b0 : ((rd x5_3 x66_3) == (rd x5_2 x41_2)) = false := beq_eq_false_iff_ne.mpr c40
             have c40b1 : ((rd x5_3 x66_3) != (rd x5_2 x41_2)) = true := bne_iff_ne.mpr c40
             by_cases c45 : (rd x5_3 x66_3) = (rd x5_2 t538)
             ·rw [if_pos c45] at H
              have c45b0 : ((rd x5_3 x66_3) == (rd x5_2 t538)) = true := beq_iff_eq.mpr c45
              have c45b1 : ((rd x5_3 x66_3) != (rd x5_2 t538)) = false := bne_eq_false_iff_eq.mpr c45
              clear c45
              obtain ⟨ji46, hji46⟩ : ∃ j_ : Int, (mn (rd x5_2 x41_2) (rd x5_2 t538)) = j_ := ⟨_, rfl⟩
              replace H : (Z17.l2 k3 t528 (x5_3.set (x66_3 : Int).toNat (ji46)) (rd x5_2 x41_2) (rd x5_2 t538) t528 (t528.length : Int) x41_2 (x5_2.length : Int) (wrap64 (x66_3 + 1)) l0_0 l0_1) = some (r1, r2) := by first | (rw [hji46] at H; exact H) | (simp only [hji46] at H ⊢; exact H)
              have hji46_ : (if (rd x5_2 t538) < (rd x5_2 x41_2) then (rd x5_2 t538) else (rd x5_2 x41_2)) = ji46 := hji46
              obtain ⟨y544, hy544⟩ : ∃ y_ : List Int, y_ = (x5_3.set (x66_3 : Int).toNat (ji46)) := ⟨_, rfl⟩
              replace H : (Z17.l2 k3 t528 y544 (rd x5_2 x41_2) (rd x5_2 t538) t528 (t528.length : Int) x41_2 (x5_2.length : Int) (wrap64 (x66_3 + 1)) l0_0 l0_1) = some (r1, r2) := by first | (rw [hy544]; exact H) | exact H
              have Ny544 := A_ hy544
              clear hy544
              have H' := A_ H
              clear H
              have p541 : 0 ≤ (x66_3 : Int) := oB_ qe_
              have q541 : x66_3 < (x5_3.length : Int) := oB_ qe_
              obtain ⟨ad541, e541, hx541_0⟩ := Kd.at_int (Kd.R_reads' HO_5.out).2.2 x66_3 p541 q541
              obtain rfl : ad539 = ad541 := (by injection e541)
              replace p541 := eq_true p541
              replace q541 := eq_true q541
              have p543 : 0 ≤ (x66_3 : Int) := oB_ qe_
              have q543 : x66_3 < (x5_3.length : Int) := oB_ qe_
              obtain ⟨ad543, e543, hx543_0⟩ := Kd.at_int (Kd.R_reads' HO_5.out).2.2 x66_3 p543 q543
              obtain rfl : ad539 = ad543 := (by injection e543)
              replace p543 := eq_true p543
              replace q543 := eq_true q543
              have p47 : 0 ≤ (x66_3 : Int) := oB_ qe_
              have q47 : (x66_3 : Int) < ((x5_3.length : Int) : Int) := oB_ qe_
              obtain ⟨go47, co47, eo47, gb47, gl47, cl47, HG47⟩ := Kd.R_form HO_5.out (by omega)
              (first | cases eo47 | (injection eo47 with ea_ en_ ec_; (first | subst ea_ | (injection ea_ with ea_; subst ea_)); subst ec_; clear en_))
              have GB47 := A_ gb47
              have GG47 := A_ HG47
              clear gb47 gl47 HG47
              (first | simp only [add_plain] at hx541_0 | skip)
              (first | simp only [add_plain] at hx543_0 | skip)
              obtain ⟨hx47_0, hf47_0⟩ := Kd.R_celln 0 HO_5.out (x66_3 : Int) p47 q47
              replace p47 := eq_true p47
              replace q47 := eq_true q47
              have HP48 := Kd.R_putg HO_5.out (x66_3 : Int) ji46
              go_wp2_with (first | ((with_reducible refine gate_store (t := 3) (p := 88) rfl ?_); refine store_event (t := 3) (p := 88) (v := ?vo_w49) (w1 := (wr.setCell ⟨go47, (x66_3 : Int).toNat, none⟩ (.int .i64 ji46))) ?hg ?ho ?hn ?hr ?_; (case ho => rfl); (case hg => rfl); (case hn => rfl); (case hr => first | (go_simp; done) | (go_simp; rfl)); intro w49 hw; have hg : wr.grownBy w49 (some go47) := (by rw [hw]; exact HP48.2); have hp_ : Kd.R (Kd.int .i64) 3 w49 w.heap.size (fun _ => True) (.slice (some ⟨go47, 0, none⟩) x5_3.length co15) y544 := (by rw [hw, Ny544.out]; exact HP48.1); clear HP48; replace HO_4 := A_ (Kd.S_after (v := (.slice (some ⟨go47, 0, none⟩) x5_3.length co15)) (v1 := (.slice (some ⟨go47, 0, none⟩) x5_3.length co15)) (ok := (fun _ => True)) (sw_ (Kd.S_mono HO_4.out (fun _ hk => ⟨trivial, hk⟩))) hg (.inl rfl)); replace HO_39 := A_ (Kd.S_after (v := (.slice (some ⟨go47, 0, none⟩) x5_3.length co15)) (v1 := (.slice (some ⟨go47, 0, none⟩) x5_3.length co15)) (ok := (fun _ => True)) (sw_ (Kd.S_mono HO_39.out (fun _ hk => ⟨trivial, hk⟩))) hg (.inl rfl)); replace BK526 := A_ (blk_grown (kk_ BK526) hg (Kd.R_ne HO_5.out BK526.out (by decide))); replace HO_5 := A_ (hp_); replace HB := A_ ((by rw [hw]; exact bD_ (HB.out) GB47.out : Below w.heap.size w w49)); clear hg hw hp_))
              (try simp only [← hl5_3])
              go_roundg k3
              case measure => have := HK1.out; have := HK2.out; have := HK3.out; omega
              case rel => exact ⟨(y544), (wrap64 (x66_3 + 1)), qc_, H', ⟨by have := HK1.out; have := HK2.out; have := HK3.out; omega⟩, ⟨by (try simp only [hl5_1]); (try simp only [hl5_2]); (try simp only [hl5_3]); (with_reducible repeat (first | apply Kd.S_alloc | apply Kd.S_drewN | apply Kd.S_drew)); exact Kd.S_mono HO_4.out (fun _ hk => hk.2)⟩, ⟨by (try simp only [hl5_1]); (try simp only [hl5_2]); (try simp only [hl5_3]); (with_reducible repeat (first | apply rA_ | apply rB_ | apply rC_)); exact HO_5.out⟩, ⟨by (try simp only [hl5_1]); (try simp only [hl5_2]); (try simp only [hl5_3]); (with_reducible repeat (first | apply Kd.S_alloc | apply Kd.S_drewN | apply Kd.S_drew)); exact Kd.S_mono HO_39.out (fun _ hk => hk.2)⟩, ⟨by (try simp only [hl5_1]); (try simp only [hl5_2]); (try simp only [hl5_3]); (with_reducible repeat (first | refine kA_ ?_ _ | refine kB_ ?_ | refine kC_ ?_ _)); exact BK526.out⟩, ⟨hB_⟩⟩
             ·rw [if_neg c45] at H
              have c45b0 : ((rd x5_3 x66_3) == (rd x5_2 t538)) = false := beq_eq_false_iff_ne.mpr c45
              have c45b1 : ((rd x5_3 x66_3) != (rd x5_2 t538)) = true := bne_iff_ne.mpr c45
              have H' := A_ H
              clear H
              have p541 : 0 ≤ (x66_3 : Int) := oB_ qe_
              have q541 : x66_3 < (x5_3.length : Int) := oB_ qe_
              obtain ⟨ad541, e541, hx541_0⟩ := Kd.at_int (Kd.R_reads' HO_5.out).2.2 x66_3 p541 q541
              obtain rfl : ad539 = ad541 := (by injection e541)
              replace p541 := eq_true p541
              replace q541 := eq_true q541
              have p543 : 0 ≤ (x66_3 : Int) := oB_ qe_
              have q543 : x66_3 < (x5_3.length : Int) := oB_ qe_
              obtain ⟨ad543, e543, hx543_0⟩ := Kd.at_int (Kd.R_reads' HO_5.out).2.2 x66_3 p543 q543
              obtain rfl : ad539 = ad543 := (by injection e543)
              replace p543 := eq_true p543
              replace q543 := eq_true q543
              go_wp2
              (try simp only [← hl5_3])
              go_roundg k3
              case measure => have := HK1.out; have := HK2.out; have := HK3.out; omega
              case rel => exact ⟨(x5_3), (wrap64 (x66_3 + 1)), qc_, H', ⟨by have := HK1.out; have := HK2.out; have := HK3.out; omega⟩, ⟨by (try simp only [hl5_1]); (try simp only [hl5_2]); (try simp only [hl5_3]); (with_reducible repeat (first | apply Kd.S_alloc | apply Kd.S_drewN | apply Kd.S_drew)); exact HO_4.out⟩, ⟨by (try simp only [hl5_1]); (try simp only [hl5_2]); (try simp only [hl5_3]); (with_reducible repeat (first | apply rA_ | apply rB_ | apply rC_)); exact HO_5.out⟩, ⟨by (try simp only [hl5_1]); (try simp only [hl5_2]); (try simp only [hl5_3]); (with_reducible repeat (first | apply Kd.S_alloc | apply Kd.S_drewN | apply Kd.S_drew)); exact HO_39.out⟩, ⟨by (try simp only [hl5_1]); (try simp only [hl5_2]); (try simp only [hl5_3]); (with_reducible repeat (first | refine kA_ ?_ _ | refine kB_ ?_ | refine kC_ ?_ _)); exact BK526.out⟩, ⟨hB_⟩⟩
           ·rw [if_neg c37] at H
            have c37b0 := oD_ c37
            (try simp only [hl5_3] at c37b0)
            clear c37
            have H' := A_ H
            clear H
            go_wp2
            (try simp only [← hl5_2, ← hl5_3])
            go_roundg k3
            case measure => have := HK1.out; have := HK2.out; have := HK3.out; omega
            case rel => exact ⟨(x5_3), (wrap64 (x41_2 + 1)), qc_, H', ⟨by have := HK1.out; have := HK2.out; have := HK3.out; omega⟩, ⟨by (try simp only [hl5_1]); (try simp only [hl5_2]); (try simp only [hl5_3]); (with_reducible repeat (first | apply Kd.S_alloc | apply Kd.S_drewN | apply Kd.S_drew)); exact HO_4.out⟩, ⟨by (try simp only [hl5_1]); (try simp only [hl5_2]); (try simp only [hl5_3]); (with_reducible repeat (first | apply rA_ | apply rB_ | apply rC_)); exact HO_5.out⟩, ⟨by (try simp only [hl5_1]); (try simp only [hl5_2]); (try simp only [hl5_3]); (with_reducible repeat (first | apply Kd.S_alloc | apply Kd.S_drewN | apply Kd.S_drew)); exact HO_39.out⟩, ⟨by (try simp only [hl5_1]); (try simp only [hl5_2]); (try simp only [hl5_3]); (with_reducible repeat (first | refine kA_ ?_ _ | refine kB_ ?_ | refine kC_ ?_ _)); exact BK526.out⟩, ⟨hB_⟩⟩
       ·rw [if_neg c22] at H
        have c22b0 := oD_ c22
        clear c22
        obtain ⟨y545, hy545⟩ : ∃ y_ : List (S78), y_ = (([] : List (S78))) := ⟨_, rfl⟩
        replace H : (Z17.l3 k2 x5_2 y545 t528 (t528.length : Int) 0) = some (r1, r2) := by first | (rw [hy545]; exact H) | exact H
        have Ny545 := A_ hy545
        clear hy545
        have H' := A_ H
        clear H
        go_wp2_with (first | ((with_reducible refine gB_ (N := 91) rfl ?_); refine Kd.R_lit k78 _ 78 ?hg (N := 91) ?hd (xs := ([] : List (S78))) (inner := []) (ok := fun _ => True) (okp := fun _ => True) ?hr ?hp (fun _ hk => hk) trivial (Below.refl _ _) (nA_ _) (by simp) ?_; (case hd => rfl); (case hg => rfl); (case hr => first | (go_simp; done) | (go_simp; rfl)); (case hp => exact (Reps.none _ _)); intro v546 w50 ho51 hb hg_ hnew_; clear hg_ hnew_; (first | rw [← Ny545.out] at ho51 | (simp only [Int.reduceToNat] at ho51; rw [← Ny545.out] at ho51)); replace HO_4 := sb_ HO_4 hb; replace HO_5 := rb_ HO_5 hb; replace HO_39 := sb_ HO_39 hb; have HO547 := rl_ w ho51; replace BK526 := bb_ BK526 hb; replace HB := b1_ hb; clear hb ho51))
        go_loopg [14, 94] k2 (fun kq v14 v94 w' => ∃ (x14_3 : List (S78)) (x94_3 : Int), v94 = .int .i64 x94_3 ∧ Aside0 (Z17.l3 kq x5_2 x14_3 t528 (t528.length : Int) x94_3 = some (r1, r2)) ∧ Aside0 (kq ≤ k2) ∧ Aside0 (Kd.R (Kd.int .i64) 3 w' w.heap.size (fun _ => True) (.slice Ao15 x5_2.length co15) x5_2) ∧ Aside0 (Kd.R k78 78 w' w.heap.size (fun _ => True) v14 x14_3) ∧ Aside0 (Kd.S (Kd.slice 3 (Kd.int .i64)) 23 w' w.heap.size (fun k_ => some k_ ≠ ((.slice Ao15 x5_2.length co15) : Value).ownBlock) (.slice Ao12 t528.length co12) t528) ∧ Aside0 (w'.heap[gb526]? = some (.cells #[(.slice A0_0 l0_0.length c0_0), (.slice A0_1 l0_1.length c0_1)] 25 (0, 0))) ∧ Aside0 (Below w.heap.size w w'))
        case atStart => exact ⟨(y545), (0), qc_, H', ⟨nA_ _⟩, ⟨by (try simp only [hl5_1]); (try simp only [hl5_2]); (with_reducible repeat (first | apply rA_ | apply rB_ | apply rC_)); exact HO_5.out⟩, ⟨by (try simp only [hl5_1]); (try simp only [hl5_2]); (with_reducible repeat (first | apply rA_ | apply rB_ | apply rC_)); exact HO547.out⟩, ⟨by (try simp only [hl5_1]); (try simp only [hl5_2]); (with_reducible repeat (first | apply Kd.S_alloc | apply Kd.S_drewN | apply Kd.S_drew)); exact HO_4.out⟩, ⟨by (try simp only [hl5_1]); (try simp only [hl5_2]); (with_reducible repeat (first | refine kA_ ?_ _ | refine kB_ ?_ | refine kC_ ?_ _)); exact BK526.out⟩, ⟨hB_⟩⟩
        case round =>
         clear H'
         obtain ⟨x14_3, x94_3, rfl, HA, HK3, HO_5, HO_14, HO_92, BK526, HB⟩ := hrel
         cases gk with
         | zero => exact absurd HA.out (by simp [Z17.l3])
         | succ k3 =>
          have H := HA.out
          clear HA
          simp only [Z17.l3] at H
          by_cases c52 : x94_3 < (t528.length : Int)
          ·rw [if_pos c52] at H
           have c52b0 := oC_ c52
           clear c52
           have c53 := cp_ H
           replace H := ca_ H
           have c53b0 := oC_ c53
           clear c53
           have c54 := cp_ H
           replace H := ca_ H
           have c54b0 := oC_ c54
           clear c54
           have c55 := cp_ H
           replace H := ca_ H
           have c55b0 := oC_ c55
           clear c55
           by_cases c56 : (rd x5_2 x94_3) = x94_3
           ·rw [if_pos c56] at H
            have c56b0 : ((rd x5_2 x94_3) == x94_3) = true := beq_iff_eq.mpr c56
            have c56b1 : ((rd x5_2 x94_3) != x94_3) = false := bne_eq_false_iff_eq.mpr c56
            clear c56
            have H' := A_ H
            clear H
            have p548 : 0 ≤ (x94_3 : Int) := oB_ qe_
            have q548 : x94_3 < (t528.length : Int) := oB_ qe_
            obtain ⟨ad548, A548_0, c548_0, e548, hx548_0, hl548_0, hi548_0⟩ := at_L2 (Kd.S_reads' HO_92.out).2.2 x94_3 p548 q548
            cases e548
            obtain ⟨ce548, hce548, hMe548, hcc548⟩ := Kd.S_get HO_92.out [] x94_3 p548 (by first | exact q548 | exact oB_ qe_ | (have e_ := (Kd.S_reads' HO_92.out).1; omega))
            obtain ⟨ve548_0, rfl, ge548_0⟩ := hMe548
            have hv548_0 := hcc548 0 _ rfl
            rw [Nat.add_zero, show ((Kd.slice 3 (Kd.int .i64))).sz = 1 from rfl, Nat.mul_one] at hv548_0
            replace hv548_0 := Option.some.inj (hv548_0.symm.trans hx548_0)
            rw [hv548_0] at ge548_0
            have HL548_0 := A_ (show Kd.R (Kd.int .i64) 3 _ _ _ _ (rd_L2 t528 x94_3) from ge548_0)
            clear hv548_0 ge548_0
            clear hcc548 hce548
            have HR548_0 := A_ hi548_0
            have HC548_0 := A_ hl548_0
            clear hi548_0 hl548_0
            replace p548 := eq_true p548
            replace q548 := eq_true q548
            have p549 : 0 ≤ (x94_3 : Int) := oB_ qe_
            have q549 : x94_3 < (x5_2.length : Int) := oB_ qe_
            obtain ⟨ad549, e549, hx549_0⟩ := Kd.at_int (Kd.R_reads' HO_5.out).2.2 x94_3 p549 q549
            cases e549
            replace p549 := eq_true p549
            replace q549 := eq_true q549
            go_wp2_with (first | ((with_reducible refine gB_ (N := 17) rfl ?_); refine bx_ 17 #[.int .i64 0, .int .i64 0] 78 ?_; intro gb550 hg w57 hbox hb; replace HO_5 := rb_ HO_5 hb; replace HO_14 := A_ (rD_ (Kd.R_elderB (rr_ HO_14) gb550 (Nat.le_of_eq hg.symm)) hb); replace HO_92 := sb_ HO_92 hb; replace HL548_0 := rb_ HL548_0 hb; have BK550 := A_ hbox; have GW550 := gw_ w hg; have GE550 := GW550; replace HB := b1_ hb; have NB526_550 := gN_ BK526 hg; have NB550_526 := gP_ BK526 hg; replace BK526 := bb_ BK526 hb; clear hb hbox hg; have hnb58 := NB550_526.out; have hnc58 := NB526_550.out; obtain ⟨hcz59_0, hcz59_1, hfz59_0, hfz59_1⟩ := c2_ BK550))
            go_loopg [110] k3 (fun kq v110 w' => ∃ (x110_4 : Int) (x551001_4 : Int), v110 = .int .i64 x110_4 ∧ Aside0 (Z17.l4 kq x5_2 x14_3 x94_3 t528 (t528.length : Int) x94_3 x5_2 (x5_2.length : Int) x110_4 ((rd_L2 t528 x94_3).length : Int) x551001_4 = some (r1, r2)) ∧ Aside0 (kq ≤ k3) ∧ Aside0 (Kd.R (Kd.int .i64) 3 w' w.heap.size (fun _ => True) (.slice (some ad549) x5_2.length co15) x5_2) ∧ Aside0 (Kd.R k78 78 w' w.heap.size (fun k_ => k_ ≠ gb550) u14 x14_3) ∧ Aside0 (Kd.S (Kd.slice 3 (Kd.int .i64)) 23 w' w.heap.size (fun k_ => some k_ ≠ ((.slice (some ad549) x5_2.length co15) : Value).ownBlock ∧ some k_ ≠ ((.slice (some ad549) x5_2.length co15) : Value).ownBlock) (.slice (some ad548) t528.length co12) t528) ∧ Aside0 (Kd.R (Kd.int .i64) 3 w' w.heap.size (fun _ => True) (.slice (some ad549) x5_2.length co15) x5_2) ∧ Aside0 (w'.heap[gb526]? = some (.cells #[(.slice A0_0 l0_0.length c0_0), (.slice A0_1 l0_1.length c0_1)] 25 (0, 0))) ∧ Aside0 (w'.heap[gb550]? = some (.cells #[.int .i64 ((rd_L2 t528 x94_3).length : Int), .int .i64 x551001_4] 78 (0, 0))) ∧ Aside0 (Below w.heap.size w w'))
            case atStart => exact ⟨(0), (0), qc_, H', ⟨nA_ _⟩, ⟨by (try simp only [hl5_1]); (try simp only [hl5_2]); (with_reducible repeat (first | apply rA_ | apply rB_ | apply rC_)); exact Kd.R_mono (Kd.R_far (p := ⟨gb550, 1, none⟩) (Kd.R_far (p := ⟨gb550, 0, none⟩) (Kd.R_types HO_5.out BK550.out (by decide)) (fun _ hk => hk.2) (.int .i64 ((rd_L2 t528 x94_3).length : Int))) (fun _ hk => hk.2) (.int .i64 0)) (fun _ hk => trivial)⟩, ⟨by (try simp only [hl5_1]); (try simp only [hl5_2]); (with_reducible repeat (first | apply rA_ | apply rB_ | apply rC_)); exact Kd.R_mono (Kd.R_far (p := ⟨gb550, 1, none⟩) (Kd.R_far (p := ⟨gb550, 0, none⟩) (Kd.R_mono HO_14.out (fun k_ hk => (⟨hk, hk.2⟩ : _ ∧ k_ ≠ gb550))) (fun _ hk => hk.2) (.int .i64 ((rd_L2 t528 x94_3).length : Int))) (fun _ hk => hk.2) (.int .i64 0)) (fun _ hk => hk.1.2)⟩, ⟨by (try simp only [hl5_1]); (try simp only [hl5_2]); (with_reducible repeat (first | apply Kd.S_alloc | apply Kd.S_drewN | apply Kd.S_drew)); exact Kd.S_mono (Kd.S_far (p := ⟨gb550, 1, none⟩) (Kd.S_far (p := ⟨gb550, 0, none⟩) (Kd.S_types HO_92.out BK550.out (by decide)) (fun _ hk => hk.2) (.int .i64 ((rd_L2 t528 x94_3).length : Int))) (fun _ hk => hk.2) (.int .i64 0)) (fun _ hk => ⟨hk.1, hk.1⟩)⟩, ⟨by (try simp only [hl5_1]); (try simp only [hl5_2]); (with_reducible repeat (first | apply rA_ | apply rB_ | apply rC_)); exact Kd.R_mono (Kd.R_far (p := ⟨gb550, 1, none⟩) (Kd.R_far (p := ⟨gb550, 0, none⟩) (Kd.R_types HO_5.out BK550.out (by decide)) (fun _ hk => hk.2) (.int .i64 ((rd_L2 t528 x94_3).length : Int))) (fun _ hk => hk.2) (.int .i64 0)) (fun _ hk => trivial)⟩, ⟨by (try simp only [hl5_1]); (try simp only [hl5_2]); (with_reducible repeat (first | refine kA_ ?_ _ | refine kB_ ?_ | refine kC_ ?_ _)); refine blk_far ?_ NB526_550.out _; (with_reducible repeat (first | refine kA_ ?_ _ | refine kB_ ?_ | refine kC_ ?_ _)); refine blk_far ?_ NB526_550.out _; (with_reducible repeat (first | refine kA_ ?_ _ | refine kB_ ?_ | refine kC_ ?_ _)); exact BK526.out⟩, ⟨by (try simp only [hl5_1]); (try simp only [hl5_2]); (with_reducible repeat (first | refine kA_ ?_ _ | refine kB_ ?_ | refine kC_ ?_ _)); refine blk_put (cs := #[.int .i64 ((rd_L2 t528 x94_3).length : Int), .int .i64 0]) ?_ 1 _ rfl; (with_reducible repeat (first | refine kA_ ?_ _ | refine kB_ ?_ | refine kC_ ?_ _)); refine blk_put (cs := #[.int .i64 0, .int .i64 0]) ?_ 0 _ rfl; (with_reducible repeat (first | refine kA_ ?_ _ | refine kB_ ?_ | refine kC_ ?_ _)); exact BK550.out⟩, ⟨hB_⟩⟩
            case round =>
             clear H'
             obtain ⟨x110_4, x551001_4, rfl, HA, HK4, HO_5, HO_14, HO_92, HO_108, BK526, BK550, HB⟩ := hrel
             cases gk with
             | zero => exact absurd HA.out (by simp [Z17.l4])
             | succ k4 =>
              have H := HA.out
              clear HA
              simp only [Z17.l4] at H
              by_cases c60 : x110_4 < (x5_2.length : Int)
              ·rw [if_pos c60] at H
               have c60b0 := oC_ c60
               clear c60
               have c61 := cp_ H
               replace H := ca_ H
               have c61b0 := oC_ c61
               clear c61
               have c62 := cp_ H
               replace H := ca_ H
               have c62b0 := oC_ c62
               clear c62
               by_cases c63 : (rd x5_2 x110_4) = x94_3
               ·rw [if_pos c63] at H
                have c63b0 : ((rd x5_2 x110_4) == x94_3) = true := beq_iff_eq.mpr c63
                have c63b1 : ((rd x5_2 x110_4) != x94_3) = false := bne_eq_false_iff_eq.mpr c63
                clear c63
                have H' := A_ H
                clear H
                have p551 : 0 ≤ (x110_4 : Int) := oB_ qe_
                have q551 : x110_4 < (x5_2.length : Int) := oB_ qe_
                obtain ⟨ad551, e551, hx551_0⟩ := Kd.at_int (Kd.R_reads' HO_108.out).2.2 x110_4 p551 q551
                obtain rfl : ad549 = ad551 := (by injection e551)
                replace p551 := eq_true p551
                replace q551 := eq_true q551
                have hnb64 := NB550_526.out
                have hnc64 := NB526_550.out
                have hcz65_0 : wr.cell? ⟨gb550, 0, none⟩ = some (.int .i64 ((rd_L2 t528 x94_3).length : Int)) := cz0_ BK550
                have hcz65_1 := cz1_ BK550
                have hfz65_0 := kD_ BK550.out 0
                have hfz65_1 := kD_ BK550.out 1
                go_wp2
                go_roundg k4
                case measure => have := HK1.out; have := HK2.out; have := HK3.out; have := HK4.out; omega
                case rel => exact ⟨(wrap64 (x110_4 + 1)), (wrap64 (x551001_4 + 1)), qc_, H', ⟨by have := HK1.out; have := HK2.out; have := HK3.out; have := HK4.out; omega⟩, ⟨by (try simp only [hl5_1]); (try simp only [hl5_2]); (with_reducible repeat (first | apply rA_ | apply rB_ | apply rC_)); exact Kd.R_mono (Kd.R_far (p := ⟨gb550, 1, none⟩) (Kd.R_types HO_5.out BK550.out (by decide)) (fun _ hk => hk.2) (.int .i64 (wrap64 (x551001_4 + 1)))) (fun _ hk => trivial)⟩, ⟨by (try simp only [hl5_1]); (try simp only [hl5_2]); (with_reducible repeat (first | apply rA_ | apply rB_ | apply rC_)); exact Kd.R_mono (Kd.R_far (p := ⟨gb550, 1, none⟩) (Kd.R_mono HO_14.out (fun k_ hk => (⟨hk, hk⟩ : _ ∧ k_ ≠ gb550))) (fun _ hk => hk.2) (.int .i64 (wrap64 (x551001_4 + 1)))) (fun _ hk => hk.1)⟩, ⟨by (try simp only [hl5_1]); (try simp only [hl5_2]); (with_reducible repeat (first | apply Kd.S_alloc | apply Kd.S_drewN | apply Kd.S_drew)); exact Kd.S_mono (Kd.S_far (p := ⟨gb550, 1, none⟩) (Kd.S_types HO_92.out BK550.out (by decide)) (fun _ hk => hk.2) (.int .i64 (wrap64 (x551001_4 + 1)))) (fun _ hk => ⟨hk.1.1, hk.1.2⟩)⟩, ⟨by (try simp only [hl5_1]); (try simp only [hl5_2]); (with_reducible repeat (first | apply rA_ | apply rB_ | apply rC_)); exact Kd.R_mono (Kd.R_far (p := ⟨gb550, 1, none⟩) (Kd.R_types HO_108.out BK550.out (by decide)) (fun _ hk => hk.2) (.int .i64 (wrap64 (x551001_4 + 1)))) (fun _ hk => trivial)⟩, ⟨by (try simp only [hl5_1]); (try simp only [hl5_2]); (with_reducible repeat (first | refine kA_ ?_ _ | refine kB_ ?_ | refine kC_ ?_ _)); refine blk_far ?_ NB526_550.out _; (with_reducible repeat (first | refine kA_ ?_ _ | refine kB_ ?_ | refine kC_ ?_ _)); exact BK526.out⟩, ⟨by (try simp only [hl5_1]); (try simp only [hl5_2]); (with_reducible repeat (first | refine kA_ ?_ _ | refine kB_ ?_ | refine kC_ ?_ _)); refine blk_put (cs := #[.int .i64 ((rd_L2 t528 x94_3).length : Int), .int .i64 x551001_4]) ?_ 1 _ rfl; (with_reducible repeat (first | refine kA_ ?_ _ | refine kB_ ?_ | refine kC_ ?_ _)); exact BK550.out⟩, ⟨hB_⟩⟩
               ·rw [if_neg c63] at H
                have c63b0 : ((rd x5_2 x110_4) == x94_3) = false := beq_eq_false_iff_ne.mpr c63
                have c63b1 : ((rd x5_2 x110_4) != x94_3) = true := bne_iff_ne.mpr c63
                have H' := A_ H
                clear H
                have p551 : 0 ≤ (x110_4 : Int) := oB_ qe_
                have q551 : x110_4 < (x5_2.length : Int) := oB_ qe_
                obtain ⟨ad551, e551, hx551_0⟩ := Kd.at_int (Kd.R_reads' HO_108.out).2.2 x110_4 p551 q551
                obtain rfl : ad549 = ad551 := (by injection e551)
                replace p551 := eq_true p551
                replace q551 := eq_true q551
                go_wp2
                go_roundg k4
                case measure => have := HK1.out; have := HK2.out; have := HK3.out; have := HK4.out; omega
                case rel => exact ⟨(wrap64 (x110_4 + 1)), (x551001_4), qc_, H', ⟨by have := HK1.out; have := HK2.out; have := HK3.out; have := HK4.out; omega⟩, ⟨by (try simp only [hl5_1]); (try simp only [hl5_2]); (with_reducible repeat (first | apply rA_ | apply rB_ | apply rC_)); exact HO_5.out⟩, ⟨by (try simp only [hl5_1]); (try simp only [hl5_2]); (with_reducible repeat (first | apply rA_ | apply rB_ | apply rC_)); exact HO_14.out⟩, ⟨by (try simp only [hl5_1]); (try simp only [hl5_2]); (with_reducible repeat (first | apply Kd.S_alloc | apply Kd.S_drewN | apply Kd.S_drew)); exact HO_92.out⟩, ⟨by (try simp only [hl5_1]); (try simp only [hl5_2]); (with_reducible repeat (first | apply rA_ | apply rB_ | apply rC_)); exact HO_108.out⟩, ⟨by (try simp only [hl5_1]); (try simp only [hl5_2]); (with_reducible repeat (first | refine kA_ ?_ _ | refine kB_ ?_ | refine kC_ ?_ _)); exact BK526.out⟩, ⟨by (try simp only [hl5_1]); (try simp only [hl5_2]); (with_reducible repeat (first | refine kA_ ?_ _ | refine kB_ ?_ | refine kC_ ?_ _)); exact BK550.out⟩, ⟨hB_⟩⟩
              ·rw [if_neg c60] at H
               have c60b0 := oD_ c60
               clear c60
               have c66 := cp_ H
               replace H := ca_ H
               have LMc66 := A_ c66
               clear c66
               obtain ⟨y552, hy552⟩ : ∃ y_ : List (S78), y_ = (x14_3 ++ [(⟨((rd_L2 t528 x94_3).length : Int), x551001_4⟩ : S78)]) := ⟨_, rfl⟩
               replace H : (Z17.l3 k4 x5_2 y552 t528 (t528.length : Int) (wrap64 (x94_3 + 1))) = some (r1, r2) := by first | (rw [hy552]; exact H) | exact H
               have Ny552 := A_ hy552
               clear hy552
               have H' := A_ H
               clear H
               have hnb67 := NB550_526.out
               have hnc67 := NB526_550.out
               have hcz68_0 : wr.cell? ⟨gb550, 0, none⟩ = some (.int .i64 ((rd_L2 t528 x94_3).length : Int)) := cz0_ BK550
               have hcz68_1 := cz1_ BK550
               have hfz68_0 := kD_ BK550.out 0
               have hfz68_1 := kD_ BK550.out 1
               go_wp2_with (first | ((with_reducible refine gate_builtin (b := .append) (xs := #[.tmp 122, .tmp 124]) rfl ?_); at_builtin; refine Kd.R_append k78 (w0 := w) w.heap.size rfl (.tmp 122) (.tmp 124) 74 78 (.agg #[(.int .i64 0), (.int .i64 0)]) 16 rfl Try.underlying74 info78 rfl (by decide) (by omega) u14 x14_3 (⟨((rd_L2 t528 x94_3).length : Int), x551001_4⟩ : S78) [.int .i64 ((rd_L2 t528 x94_3).length : Int), .int .i64 x551001_4] (fun k_ => k_ ≠ gb550) (fun _ => False) rfl rfl ?aP (fun _ hk => hk.elim) ?aF ?aO ?aB ?aS ?aL ?_; (case aP => exact k78_mkM _ _ _ (⟨((rd_L2 t528 x94_3).length : Int), x551001_4⟩ : S78)); (case aB => exact hB_); (case aF => exact (fun k_ hk => Kd.freshB (kk_ BK550) k_ hk)); (case aO => exact (rr_ HO_14)); (case aS => exact (bF_ hB_)); (case aL => have := LMc66.out; omega); intro v553 w69 ho hb hg hat; rw [← Ny552.out] at ho; replace HO_5 := A_ (Kd.R_over' (rr_ HO_5) (Kd.R_typed (rr_ HO_14)) (by decide) hg); replace HO_92 := A_ (Kd.S_over' (ss_ HO_92) (Kd.R_typed (rr_ HO_14)) (by decide) hg); replace HO_108 := A_ (Kd.R_over' (rr_ HO_108) (Kd.R_typed (rr_ HO_14)) (by decide) hg); replace BK526 := A_ (blk_grown (kk_ BK526) hg (Kd.R_ne HO_14.out BK526.out (by decide))); replace BK550 := A_ (blk_grown (kk_ BK550) hg (Kd.R_away HO_14.out (fun _ hk => hk))); replace HB := A_ hb; have HO554 := A_ ho; clear HO_14; clear ho hb hg hat))
               go_roundg k4
               case measure => have := HK1.out; have := HK2.out; have := HK3.out; have := HK4.out; omega
               case rel => exact ⟨(y552), (wrap64 (x94_3 + 1)), qc_, H', ⟨by have := HK1.out; have := HK2.out; have := HK3.out; have := HK4.out; omega⟩, ⟨by (try simp only [hl5_1]); (try simp only [hl5_2]); (with_reducible repeat (first | apply rA_ | apply rB_ | apply rC_)); exact HO_5.out⟩, ⟨by (try simp only [hl5_1]); (try simp only [hl5_2]); (with_reducible repeat (first | apply rA_ | apply rB_ | apply rC_)); exact Kd.R_mono HO554.out (fun _ hk => trivial)⟩, ⟨by (try simp only [hl5_1]); (try simp only [hl5_2]); (with_reducible repeat (first | apply Kd.S_alloc | apply Kd.S_drewN | apply Kd.S_drew)); exact Kd.S_mono HO_92.out (fun _ hk => hk.1)⟩, ⟨by (try simp only [hl5_1]); (try simp only [hl5_2]); (with_reducible repeat (first | refine kA_ ?_ _ | refine kB_ ?_ | refine kC_ ?_ _)); exact BK526.out⟩, ⟨hB_⟩⟩
           ·rw [if_neg c56] at H
            have c56b0 : ((rd x5_2 x94_3) == x94_3) = false := beq_eq_false_iff_ne.mpr c56
            have c56b1 : ((rd x5_2 x94_3) != x94_3) = true := bne_iff_ne.mpr c56
            have H' := A_ H
            clear H
            have p548 : 0 ≤ (x94_3 : Int) := oB_ qe_
            have q548 : x94_3 < (t528.length : Int) := oB_ qe_
            obtain ⟨ad548, A548_0, c548_0, e548, hx548_0, hl548_0, hi548_0⟩ := at_L2 (Kd.S_reads' HO_92.out).2.2 x94_3 p548 q548
            cases e548
            obtain ⟨ce548, hce548, hMe548, hcc548⟩ := Kd.S_get HO_92.out [] x94_3 p548 (by first | exact q548 | exact oB_ qe_ | (have e_ := (Kd.S_reads' HO_92.out).1; omega))
            obtain ⟨ve548_0, rfl, ge548_0⟩ := hMe548
            have hv548_0 := hcc548 0 _ rfl
            rw [Nat.add_zero, show ((Kd.slice 3 (Kd.int .i64))).sz = 1 from rfl, Nat.mul_one] at hv548_0
            replace hv548_0 := Option.some.inj (hv548_0.symm.trans hx548_0)
            rw [hv548_0] at ge548_0
            have HL548_0 := A_ (show Kd.R (Kd.int .i64) 3 _ _ _ _ (rd_L2 t528 x94_3) from ge548_0)
            clear hv548_0 ge548_0
            clear hcc548 hce548
            have HR548_0 := A_ hi548_0
            have HC548_0 := A_ hl548_0
            clear hi548_0 hl548_0
            replace p548 := eq_true p548
            replace q548 := eq_true q548
            have p549 : 0 ≤ (x94_3 : Int) := oB_ qe_
            have q549 : x94_3 < (x5_2.length : Int) := oB_ qe_
            obtain ⟨ad549, e549, hx549_0⟩ := Kd.at_int (Kd.R_reads' HO_5.out).2.2 x94_3 p549 q549
            cases e549
            replace p549 := eq_true p549
            replace q549 := eq_true q549
            go_wp2
            go_roundg k3
            case measure => have := HK1.out; have := HK2.out; have := HK3.out; omega
            case rel => exact ⟨(x14_3), (wrap64 (x94_3 + 1)), qc_, H', ⟨by have := HK1.out; have := HK2.out; have := HK3.out; omega⟩, ⟨by (try simp only [hl5_1]); (try simp only [hl5_2]); (with_reducible repeat (first | apply rA_ | apply rB_ | apply rC_)); exact HO_5.out⟩, ⟨by (try simp only [hl5_1]); (try simp only [hl5_2]); (with_reducible repeat (first | apply rA_ | apply rB_ | apply rC_)); exact HO_14.out⟩, ⟨by (try simp only [hl5_1]); (try simp only [hl5_2]); (with_reducible repeat (first | apply Kd.S_alloc | apply Kd.S_drewN | apply Kd.S_drew)); exact HO_92.out⟩, ⟨by (try simp only [hl5_1]); (try simp only [hl5_2]); (with_reducible repeat (first | refine kA_ ?_ _ | refine kB_ ?_ | refine kC_ ?_ _)); exact BK526.out⟩, ⟨hB_⟩⟩
          ·rw [if_neg c52] at H
           have c52b0 := oD_ c52
           clear c52
           simp only [Option.some.injEq, Prod.mk.injEq] at H
           obtain ⟨rfl, rfl⟩ := H
           go_wp2
           go_ret2
           exact ⟨_, qb_, (rr_ HO_14), hB_⟩
 ·replace c3 := Bool.eq_false_iff.mpr c3
  subst c3
  have H1 : (some (([] : List (S78)), false)) = some (r1, r2) := by rw [if_neg (show ¬ (false = true) by decide)] at H; exact H
  clear H
  have H := H1
  clear H1
  simp only [Option.some.injEq, Prod.mk.injEq] at H
  obtain ⟨rfl, rfl⟩ := H
  go_enter Try.func64, Try.ntmps64
  go_wp2_with (first | ((with_reducible refine gB_ (N := 1) rfl ?_); refine bx_ 1 #[.slice A0_0 l0_0.length c0_0, .slice A0_1 l0_1.length c0_1] 25 ?_; intro gb526 hg w70 hbox hb; have BK526 := A_ hbox; have GW526 := gw_ w hg; have GE526 := GW526; replace HB := b1_ hb; clear hb hbox hg; obtain ⟨hcz71_0, hcz71_1, hfz71_0, hfz71_1⟩ := c2_ BK526) | ((with_reducible refine gA_ (f := 66) rfl ?_); refine gL_ (some 21) Try.func66 #[.agg #[.slice A0_0 l0_0.length c0_0, .slice A0_1 l0_1.length c0_1]] rfl qa_ ?_; (with_reducible refine (Z29.calls k _ _ l0_0 _ _ l0_1 false _ (cb_ HR0_0) HC0_0.out (cb_ HR0_1) HC0_1.out A2.out).mono ?_); rintro e w72 ⟨rfl, hb⟩; refine ⟨_, rfl, ?_⟩; replace BK526 := bb_ BK526 hb; replace HB := b1_ hb; clear hb))
  go_ret2
  exact ⟨_, qb_, by first | exact Kd.R_nil _ _ _ _ _ | exact Kd.N_nil _ _ _ _ _ | exact Kd.V_nil _ _ _ _ _ | exact Kd.Q_nil _ _ _ _ _ | exact Kd.S_nil _ _ _ _ _, hB_⟩
end Go.Proofs.Ytcggfjpnfodbaaa.A
end
section
namespace Go.Proofs.Ytcggfjpnfodbaaa.A
open Go.RowKit Go.Proofs.YtcggfjpnfodbaaaW.PrintWords Go.Proofs.YtcggfjpnfodbaaaW.PrintLast Go.Proofs.YtcggfjpnfodbaaaW.PrintMore
attribute [local go_sem] max2_int min2_int max_two min_two max_three min_three max_four min_four
set_option linter.unusedVariables false
set_option linter.unusedSimpArgs false
def Z57.l0 : Nat → Int → Int → Option (Int)
 | 0, _, _ => none
 | k + 1, x0, x1 => if x1 = 0 then (some x0) else (Z57.l0 k x1 (Int.tmod x0 x1))
def Z57.f (k : Nat) (a0 : Int) (a1 : Int) : Option (Int) := Z57.l0 k a0 a1
theorem Z57.mono_l : ∀ k, (∀ y0 y1, LeO (Z57.l0 k y0 y1) (Z57.l0 (k + 1) y0 y1))
 | 0 => fun _ _ r h => by simp [Z57.l0] at h
 | k + 1 => by
  have ih0 := Z57.mono_l k
  ·intro y0 y1
   unfold Z57.l0
   repeat' first|exact ih0 _ _|exact lo_|refine LeO.ite ?_ ?_|refine LeO.bind ?_ (fun _ => ?_)
theorem Z57.mono : ∀ a0 a1 k, LeO (Z57.f k a0 a1) (Z57.f (k + 1) a0 a1) := by
 intro a0 a1 k
 have ih0 := Z57.mono_l k
 unfold Z57.f
 repeat' first|exact ih0 _ _|exact lo_|refine LeO.ite ?_ ?_|refine LeO.bind ?_ (fun _ => ?_)
set_option maxHeartbeats 8000000 in
set_option maxRecDepth 100000 in
theorem Z57.calls (k : Nat) (a0 : Int) (a1 : Int) (r : Int) (w : World) (h : Z57.f k a0 a1 = some r) :
  Calls Try.prog 65 #[.int .i64 a0, .int .i64 a1] w fun e w' => e = .returned (.int .i64 r) ∧ Drawn0 w w' := by
 have H := h
 unfold Z57.f at H
 clear h
 have H' := A_ H
 clear H
 go_enter Try.func65, Try.ntmps65
 go_wp2
 repeat (go_quiet (fail); try go_wp2)
 go_loopg [0, 1] k (fun kq v0 v1 w' => ∃ (x0_1 : Int) (x1_1 : Int), v0 = .int .i64 x0_1 ∧ v1 = .int .i64 x1_1 ∧ Aside0 (Z57.l0 kq x0_1 x1_1 = some r) ∧ Aside0 (kq ≤ k) ∧ Drawn0 w w')
 case atStart => exact ⟨(a0), (a1), qc_, qc_, H', ⟨nA_ _⟩, by repeat (first | exact Drawn0.refl _ | apply Drawn0.step)⟩
 case round =>
  clear H'
  obtain ⟨x0_1, x1_1, rfl, rfl, HA, HK1, ⟨m1, rfl⟩⟩ := hrel
  cases gk with
  | zero => exact absurd HA.out (by simp [Z57.l0])
  | succ k1 =>
   have H := HA.out
   clear HA
   simp only [Z57.l0] at H
   by_cases c3 : x1_1 = 0
   ·rw [if_pos c3] at H
    have c3b0 : (x1_1 == 0) = true := beq_iff_eq.mpr c3
    have c3b1 : (x1_1 != 0) = false := bne_eq_false_iff_eq.mpr c3
    clear c3
    obtain rfl := Option.some.inj H
    go_wp2
    repeat (go_quiet (fail); try go_wp2)
    go_ret
    exact ⟨qc_, by repeat (first | exact Drawn0.refl _ | apply Drawn0.step)⟩
   ·rw [if_neg c3] at H
    have c3b0 : (x1_1 == 0) = false := beq_eq_false_iff_ne.mpr c3
    have c3b1 : (x1_1 != 0) = true := bne_iff_ne.mpr c3
    have H' := A_ H
    clear H
    go_wp2
    repeat (go_quiet (fail); try go_wp2)
    go_roundg k1
    case measure => have := HK1.out; omega
    case rel => exact ⟨(x1_1), (Int.tmod x0_1 x1_1), qc_, qc_, H', ⟨by have := HK1.out; omega⟩, by repeat (first | exact Drawn0.refl _ | apply Drawn0.step)⟩
def Z19.l0 : Nat → Int → List (S78) → Int → Int → Option (Int)
 | 0, _, _, _, _ => none
 | k + 1, x5, x16, x17, x18 => if x18 < x17 then (if 0 ≤ x18 then (if x18 < (x16.length : Int) then ((Z57.f k ((rd_T78 x16 x18).f0) ((rd_T78 x16 x18).f1)).bind fun t562 => (if t562 = 0 then (none) else ((Z57.f k x5 (wrap64 (Int.tdiv ((rd_T78 x16 x18).f0) t562))).bind fun t563 => (if t563 = 0 then (none) else (Z19.l0 k (wrap64 ((wrap64 (Int.tdiv x5 t563)) * (wrap64 (Int.tdiv ((rd_T78 x16 x18).f0) t562)))) x16 x17 (wrap64 (x18 + 1))))))) else (none)) else (none)) else (some x5)
def Z19.f (k : Nat) (l0_0 : List Int) (l0_1 : List Int) : Option (Int) := (Z17.f k l0_0 l0_1).bind fun bt556 => (if bt556.2 = true then (Z19.l0 k 1 bt556.1 (bt556.1.length : Int) 0) else (some 0))
theorem Z19.mono_l : ∀ k, (∀ y0 y1 y2 y3, LeO (Z19.l0 k y0 y1 y2 y3) (Z19.l0 (k + 1) y0 y1 y2 y3))
 | 0 => fun _ _ _ _ r h => by simp [Z19.l0] at h
 | k + 1 => by
  have ih0 := Z19.mono_l k
  ·intro y0 y1 y2 y3
   unfold Z19.l0
   repeat' first|exact ih0 _ _ _ _|exact Z17.mono _ _ _|exact Z57.mono _ _ _|exact lo_|refine LeO.ite ?_ ?_|refine LeO.bind ?_ (fun _ => ?_)
theorem Z19.mono : ∀ a0 a1 k, LeO (Z19.f k a0 a1) (Z19.f (k + 1) a0 a1) := by
 intro a0 a1 k
 have ih0 := Z19.mono_l k
 unfold Z19.f
 repeat' first|exact ih0 _ _ _ _|exact Z17.mono _ _ _|exact Z57.mono _ _ _|exact lo_|refine LeO.ite ?_ ?_|refine LeO.bind ?_ (fun _ => ?_)
set_option maxHeartbeats 8000000 in
set_option maxRecDepth 100000 in
theorem Z19.calls (k : Nat) (A0_0 : Option Addr) (c0_0 : Nat) (l0_0 : List Int) (A0_1 : Option Addr) (c0_1 : Nat) (l0_1 : List Int) (r : Int) (w : World) (hr0_0 : Kd.C (Kd.int .i64) w A0_0 l0_0.length l0_0) (hc0_0 : l0_0.length ≤ c0_0) (hr0_1 : Kd.C (Kd.int .i64) w A0_1 l0_1.length l0_1) (hc0_1 : l0_1.length ≤ c0_1) (h : Z19.f k l0_0 l0_1 = some r) :
  Calls Try.prog 17 #[.agg #[.slice A0_0 l0_0.length c0_0, .slice A0_1 l0_1.length c0_1]] w fun e w' => e = .returned (.int .i64 r) ∧ Below w.heap.size w w' := by
 have hu25 := Try.underlying25
 have hu78 := Try.underlying78
 have HR0_0 := A_ hr0_0
 have HC0_0 := A_ hc0_0
 clear hr0_0 hc0_0
 have HR0_1 := A_ hr0_1
 have HC0_1 := A_ hc0_1
 clear hr0_1 hc0_1
 have HB := A_ (Below.refl w.heap.size w)
 have H := h
 unfold Z19.f at H
 clear h
 obtain ⟨⟨t556, t559⟩, A2, H⟩ := bi_ H
 try dsimp only at H
 by_cases c3 : t559 = true
 ·subst c3
  rw [if_pos rfl] at H
  have H' := A_ H
  clear H
  go_enter Try.func17, Try.ntmps17
  go_wp2_with (first | ((with_reducible refine gB_ (N := 1) rfl ?_); refine bx_ 1 #[.slice A0_0 l0_0.length c0_0, .slice A0_1 l0_1.length c0_1] 25 ?_; intro gb555 hg w4 hbox hb; have BK555 := A_ hbox; have GW555 := gw_ w hg; have GE555 := GW555; replace HB := b1_ hb; clear hb hbox hg; obtain ⟨hcz5_0, hcz5_1, hfz5_0, hfz5_1⟩ := c2_ BK555) | (go_at_call 64; (with_reducible refine (Z17.calls k _ _ l0_0 _ _ l0_1 t556 true _ (cb_ HR0_0) HC0_0.out (cb_ HR0_1) HC0_1.out A2.out).mono ?_); rintro e w6 ⟨v557, rfl, ho0, hb⟩; have HO558 := rl_ w ho0; replace BK555 := bb_ BK555 hb; replace HB := b1_ hb; clear hb ho0; obtain ⟨Ao7, co7, eo7⟩ := Kd.R_slice HO558.out; subst eo7))
  repeat (go_quiet (first | ((with_reducible refine gB_ (N := 1) rfl ?_); refine bx_ 1 #[.slice A0_0 l0_0.length c0_0, .slice A0_1 l0_1.length c0_1] 25 ?_; intro gb555 hg w4 hbox hb; have BK555 := A_ hbox; have GW555 := gw_ w hg; have GE555 := GW555; replace HB := b1_ hb; clear hb hbox hg; obtain ⟨hcz5_0, hcz5_1, hfz5_0, hfz5_1⟩ := c2_ BK555) | (go_at_call 64; (with_reducible refine (Z17.calls k _ _ l0_0 _ _ l0_1 t556 true _ (cb_ HR0_0) HC0_0.out (cb_ HR0_1) HC0_1.out A2.out).mono ?_); rintro e w6 ⟨v557, rfl, ho0, hb⟩; have HO558 := rl_ w ho0; replace BK555 := bb_ BK555 hb; replace HB := b1_ hb; clear hb ho0; obtain ⟨Ao7, co7, eo7⟩ := Kd.R_slice HO558.out; subst eo7)); try go_wp2_with (first | ((with_reducible refine gB_ (N := 1) rfl ?_); refine bx_ 1 #[.slice A0_0 l0_0.length c0_0, .slice A0_1 l0_1.length c0_1] 25 ?_; intro gb555 hg w4 hbox hb; have BK555 := A_ hbox; have GW555 := gw_ w hg; have GE555 := GW555; replace HB := b1_ hb; clear hb hbox hg; obtain ⟨hcz5_0, hcz5_1, hfz5_0, hfz5_1⟩ := c2_ BK555) | (go_at_call 64; (with_reducible refine (Z17.calls k _ _ l0_0 _ _ l0_1 t556 true _ (cb_ HR0_0) HC0_0.out (cb_ HR0_1) HC0_1.out A2.out).mono ?_); rintro e w6 ⟨v557, rfl, ho0, hb⟩; have HO558 := rl_ w ho0; replace BK555 := bb_ BK555 hb; replace HB := b1_ hb; clear hb ho0; obtain ⟨Ao7, co7, eo7⟩ := Kd.R_slice HO558.out; subst eo7)))
  go_loopg [5, 18] k (fun kq v5 v18 w' => ∃ (x5_1 : Int) (x18_1 : Int), v5 = .int .i64 x5_1 ∧ v18 = .int .i64 x18_1 ∧ Aside0 (Z19.l0 kq x5_1 t556 (t556.length : Int) x18_1 = some r) ∧ Aside0 (kq ≤ k) ∧ Aside0 (Kd.R k78 78 w' w.heap.size (fun _ => True) (.slice Ao7 t556.length co7) t556) ∧ Aside0 (w'.heap[gb555]? = some (.cells #[(.slice A0_0 l0_0.length c0_0), (.slice A0_1 l0_1.length c0_1)] 25 (0, 0))) ∧ Aside0 (Below w.heap.size w w'))
  case atStart => exact ⟨(1), (0), qc_, qc_, H', ⟨nA_ _⟩, ⟨(rr_ HO558)⟩, ⟨(kk_ BK555)⟩, ⟨hB_⟩⟩
  case round =>
   clear H'
   obtain ⟨x5_1, x18_1, rfl, rfl, HA, HK1, HO_16, BK555, HB⟩ := hrel
   cases gk with
   | zero => exact absurd HA.out (by simp [Z19.l0])
   | succ k1 =>
    have H := HA.out
    clear HA
    simp only [Z19.l0] at H
    by_cases c8 : x18_1 < (t556.length : Int)
    ·rw [if_pos c8] at H
     have c8b0 := oC_ c8
     clear c8
     have c9 := cp_ H
     replace H := ca_ H
     have c9b0 := oC_ c9
     clear c9
     have c10 := cp_ H
     replace H := ca_ H
     have c10b0 := oC_ c10
     clear c10
     obtain ⟨t562, A11, H⟩ := bi_ H
     by_cases c12 : t562 = 0
     ·rw [if_pos c12] at H
      exact absurd H (by simp)
     ·rw [if_neg c12] at H
      have c12b0 : (t562 == 0) = false := beq_eq_false_iff_ne.mpr c12
      have c12b1 : (t562 != 0) = true := bne_iff_ne.mpr c12
      obtain ⟨t563, A13, H⟩ := bi_ H
      by_cases c14 : t563 = 0
      ·rw [if_pos c14] at H
       exact absurd H (by simp)
      ·rw [if_neg c14] at H
       have c14b0 : (t563 == 0) = false := beq_eq_false_iff_ne.mpr c14
       have c14b1 : (t563 != 0) = true := bne_iff_ne.mpr c14
       have H' := A_ H
       clear H
       have p560 : 0 ≤ (x18_1 : Int) := oB_ qe_
       have q560 : x18_1 < (t556.length : Int) := oB_ qe_
       obtain ⟨ad560, e560, hx560_0, hx560_1⟩ := at_T78 (Kd.R_reads' HO_16.out).2.2 x18_1 p560 q560
       cases e560
       replace p560 := eq_true p560
       replace q560 := eq_true q560
       go_wp2_with (first | ((with_reducible refine gB_ (N := 7) rfl ?_); refine bx_ 7 #[.int .i64 0, .int .i64 0] 78 ?_; intro gb561 hg w15 hbox hb; replace HO_16 := A_ (rD_ (Kd.R_elderB (rr_ HO_16) gb561 (Nat.le_of_eq hg.symm)) hb); have BK561 := A_ hbox; have GW561 := gw_ w hg; have GE561 := GW561; replace HB := b1_ hb; have NB555_561 := gN_ BK555 hg; have NB561_555 := gP_ BK555 hg; replace BK555 := bb_ BK555 hb; clear hb hbox hg; have hnb16 := NB561_555.out; have hnc16 := NB555_561.out; obtain ⟨hcz17_0, hcz17_1, hfz17_0, hfz17_1⟩ := c2_ BK561) | (go_at_call 65; (with_reducible refine (Z57.calls k1 ((rd_T78 t556 x18_1).f0) ((rd_T78 t556 x18_1).f1) t562 _ A11.out).mono ?_); rintro e w' ⟨rfl, ⟨nd, rfl⟩⟩; (try first | exact ⟨rfl, _, World.drewN_drewN _ _ _⟩ | exact ⟨rfl, _, Eq.trans (World.drewN_drewN _ _ _) (congrArg (World.drewN _) (Nat.add_assoc _ _ _))⟩)) | (go_at_call 65; (with_reducible refine (Z57.calls k1 x5_1 (wrap64 (Int.tdiv ((rd_T78 t556 x18_1).f0) t562)) t563 _ A13.out).mono ?_); rintro e w' ⟨rfl, ⟨nd, rfl⟩⟩; (try first | exact ⟨rfl, _, World.drewN_drewN _ _ _⟩ | exact ⟨rfl, _, Eq.trans (World.drewN_drewN _ _ _) (congrArg (World.drewN _) (Nat.add_assoc _ _ _))⟩)))
       repeat (go_quiet (first | ((with_reducible refine gB_ (N := 7) rfl ?_); refine bx_ 7 #[.int .i64 0, .int .i64 0] 78 ?_; intro gb561 hg w15 hbox hb; replace HO_16 := A_ (rD_ (Kd.R_elderB (rr_ HO_16) gb561 (Nat.le_of_eq hg.symm)) hb); have BK561 := A_ hbox; have GW561 := gw_ w hg; have GE561 := GW561; replace HB := b1_ hb; have NB555_561 := gN_ BK555 hg; have NB561_555 := gP_ BK555 hg; replace BK555 := bb_ BK555 hb; clear hb hbox hg; have hnb16 := NB561_555.out; have hnc16 := NB555_561.out; obtain ⟨hcz17_0, hcz17_1, hfz17_0, hfz17_1⟩ := c2_ BK561) | (go_at_call 65; (with_reducible refine (Z57.calls k1 ((rd_T78 t556 x18_1).f0) ((rd_T78 t556 x18_1).f1) t562 _ A11.out).mono ?_); rintro e w' ⟨rfl, ⟨nd, rfl⟩⟩; (try first | exact ⟨rfl, _, World.drewN_drewN _ _ _⟩ | exact ⟨rfl, _, Eq.trans (World.drewN_drewN _ _ _) (congrArg (World.drewN _) (Nat.add_assoc _ _ _))⟩)) | (go_at_call 65; (with_reducible refine (Z57.calls k1 x5_1 (wrap64 (Int.tdiv ((rd_T78 t556 x18_1).f0) t562)) t563 _ A13.out).mono ?_); rintro e w' ⟨rfl, ⟨nd, rfl⟩⟩; (try first | exact ⟨rfl, _, World.drewN_drewN _ _ _⟩ | exact ⟨rfl, _, Eq.trans (World.drewN_drewN _ _ _) (congrArg (World.drewN _) (Nat.add_assoc _ _ _))⟩))); try go_wp2_with (first | ((with_reducible refine gB_ (N := 7) rfl ?_); refine bx_ 7 #[.int .i64 0, .int .i64 0] 78 ?_; intro gb561 hg w15 hbox hb; replace HO_16 := A_ (rD_ (Kd.R_elderB (rr_ HO_16) gb561 (Nat.le_of_eq hg.symm)) hb); have BK561 := A_ hbox; have GW561 := gw_ w hg; have GE561 := GW561; replace HB := b1_ hb; have NB555_561 := gN_ BK555 hg; have NB561_555 := gP_ BK555 hg; replace BK555 := bb_ BK555 hb; clear hb hbox hg; have hnb16 := NB561_555.out; have hnc16 := NB555_561.out; obtain ⟨hcz17_0, hcz17_1, hfz17_0, hfz17_1⟩ := c2_ BK561) | (go_at_call 65; (with_reducible refine (Z57.calls k1 ((rd_T78 t556 x18_1).f0) ((rd_T78 t556 x18_1).f1) t562 _ A11.out).mono ?_); rintro e w' ⟨rfl, ⟨nd, rfl⟩⟩; (try first | exact ⟨rfl, _, World.drewN_drewN _ _ _⟩ | exact ⟨rfl, _, Eq.trans (World.drewN_drewN _ _ _) (congrArg (World.drewN _) (Nat.add_assoc _ _ _))⟩)) | (go_at_call 65; (with_reducible refine (Z57.calls k1 x5_1 (wrap64 (Int.tdiv ((rd_T78 t556 x18_1).f0) t562)) t563 _ A13.out).mono ?_); rintro e w' ⟨rfl, ⟨nd, rfl⟩⟩; (try first | exact ⟨rfl, _, World.drewN_drewN _ _ _⟩ | exact ⟨rfl, _, Eq.trans (World.drewN_drewN _ _ _) (congrArg (World.drewN _) (Nat.add_assoc _ _ _))⟩))))
       go_roundg k1
       case measure => have := HK1.out; omega
       case rel => exact ⟨(wrap64 ((wrap64 (Int.tdiv x5_1 t563)) * (wrap64 (Int.tdiv ((rd_T78 t556 x18_1).f0) t562)))), (wrap64 (x18_1 + 1)), qc_, qc_, H', ⟨by have := HK1.out; omega⟩, ⟨(rw_ (Kd.R_mono (Kd.R_far (p := ⟨gb561, 1, none⟩) (Kd.R_far (p := ⟨gb561, 0, none⟩) (Kd.R_mono HO_16.out (fun k_ hk => (⟨hk, hk.2⟩ : _ ∧ k_ ≠ gb561))) (fun _ hk => hk.2) (.int .i64 ((rd_T78 t556 x18_1).f0))) (fun _ hk => hk.2) (.int .i64 ((rd_T78 t556 x18_1).f1))) (fun _ hk => trivial)))⟩, ⟨by (with_reducible repeat (first | refine kA_ ?_ _ | refine kB_ ?_ | refine kC_ ?_ _)); refine blk_far ?_ NB555_561.out _; (with_reducible repeat (first | refine kA_ ?_ _ | refine kB_ ?_ | refine kC_ ?_ _)); refine blk_far ?_ NB555_561.out _; (with_reducible repeat (first | refine kA_ ?_ _ | refine kB_ ?_ | refine kC_ ?_ _)); exact BK555.out⟩, ⟨hB_⟩⟩
    ·rw [if_neg c8] at H
     have c8b0 := oD_ c8
     clear c8
     obtain rfl := Option.some.inj H
     go_wp2
     repeat (go_quiet (fail); try go_wp2)
     go_ret
     exact ⟨qb_, hB_⟩
 ·replace c3 := Bool.eq_false_iff.mpr c3
  subst c3
  have H1 : (some 0) = some r := by rw [if_neg (show ¬ (false = true) by decide)] at H; exact H
  clear H
  have H := H1
  clear H1
  obtain rfl := Option.some.inj H
  go_enter Try.func17, Try.ntmps17
  go_wp2_with (first | ((with_reducible refine gB_ (N := 1) rfl ?_); refine bx_ 1 #[.slice A0_0 l0_0.length c0_0, .slice A0_1 l0_1.length c0_1] 25 ?_; intro gb555 hg w18 hbox hb; have BK555 := A_ hbox; have GW555 := gw_ w hg; have GE555 := GW555; replace HB := b1_ hb; clear hb hbox hg; obtain ⟨hcz19_0, hcz19_1, hfz19_0, hfz19_1⟩ := c2_ BK555) | (go_at_call 64; (with_reducible refine (Z17.calls k _ _ l0_0 _ _ l0_1 t556 false _ (cb_ HR0_0) HC0_0.out (cb_ HR0_1) HC0_1.out A2.out).mono ?_); rintro e w20 ⟨v557, rfl, ho0, hb⟩; have HO558 := rl_ w ho0; replace BK555 := bb_ BK555 hb; replace HB := b1_ hb; clear hb ho0))
  repeat (go_quiet (first | ((with_reducible refine gB_ (N := 1) rfl ?_); refine bx_ 1 #[.slice A0_0 l0_0.length c0_0, .slice A0_1 l0_1.length c0_1] 25 ?_; intro gb555 hg w18 hbox hb; have BK555 := A_ hbox; have GW555 := gw_ w hg; have GE555 := GW555; replace HB := b1_ hb; clear hb hbox hg; obtain ⟨hcz19_0, hcz19_1, hfz19_0, hfz19_1⟩ := c2_ BK555) | (go_at_call 64; (with_reducible refine (Z17.calls k _ _ l0_0 _ _ l0_1 t556 false _ (cb_ HR0_0) HC0_0.out (cb_ HR0_1) HC0_1.out A2.out).mono ?_); rintro e w20 ⟨v557, rfl, ho0, hb⟩; have HO558 := rl_ w ho0; replace BK555 := bb_ BK555 hb; replace HB := b1_ hb; clear hb ho0)); try go_wp2_with (first | ((with_reducible refine gB_ (N := 1) rfl ?_); refine bx_ 1 #[.slice A0_0 l0_0.length c0_0, .slice A0_1 l0_1.length c0_1] 25 ?_; intro gb555 hg w18 hbox hb; have BK555 := A_ hbox; have GW555 := gw_ w hg; have GE555 := GW555; replace HB := b1_ hb; clear hb hbox hg; obtain ⟨hcz19_0, hcz19_1, hfz19_0, hfz19_1⟩ := c2_ BK555) | (go_at_call 64; (with_reducible refine (Z17.calls k _ _ l0_0 _ _ l0_1 t556 false _ (cb_ HR0_0) HC0_0.out (cb_ HR0_1) HC0_1.out A2.out).mono ?_); rintro e w20 ⟨v557, rfl, ho0, hb⟩; have HO558 := rl_ w ho0; replace BK555 := bb_ BK555 hb; replace HB := b1_ hb; clear hb ho0)))
  go_ret
  exact ⟨qb_, hB_⟩
def Z54.l0 : Nat → Int → List Int → Int → Int → Option (Int)
 | 0, _, _, _, _ => none
 | k + 1, x3, x6, x7, x8 => if x8 < x7 then (if 0 ≤ x8 then (if x8 < (x6.length : Int) then (Z54.l0 k (wrap64 (x3 + (rd x6 x8))) x6 x7 (wrap64 (x8 + 1))) else (none)) else (none)) else (some x3)
def Z54.f (k : Nat) (l0 : List Int) : Option (Int) := Z54.l0 k 0 l0 (l0.length : Int) 0
theorem Z54.mono_l : ∀ k, (∀ y0 y1 y2 y3, LeO (Z54.l0 k y0 y1 y2 y3) (Z54.l0 (k + 1) y0 y1 y2 y3))
 | 0 => fun _ _ _ _ r h => by simp [Z54.l0] at h
 | k + 1 => by
  have ih0 := Z54.mono_l k
  ·intro y0 y1 y2 y3
   unfold Z54.l0
   repeat' first|exact ih0 _ _ _ _|exact lo_|refine LeO.ite ?_ ?_|refine LeO.bind ?_ (fun _ => ?_)
theorem Z54.mono : ∀ a0 k, LeO (Z54.f k a0) (Z54.f (k + 1) a0) := by
 intro a0 k
 have ih0 := Z54.mono_l k
 unfold Z54.f
 repeat' first|exact ih0 _ _ _ _|exact lo_|refine LeO.ite ?_ ?_|refine LeO.bind ?_ (fun _ => ?_)
set_option maxHeartbeats 8000000 in
set_option maxRecDepth 100000 in
theorem Z54.calls (k : Nat) (A0 : Option Addr) (c0 : Nat) (l0 : List Int) (r : Int) (w : World) (hr0 : Kd.C (Kd.int .i64) w A0 l0.length l0) (hc0 : l0.length ≤ c0) (h : Z54.f k l0 = some r) :
  Calls Try.prog 18 #[.slice A0 l0.length c0] w fun e w' => e = .returned (.int .i64 r) ∧ Drawn0 w w' := by
 have HR0 := A_ hr0
 have HC0 := A_ hc0
 clear hr0 hc0
 have H := h
 unfold Z54.f at H
 clear h
 have H' := A_ H
 clear H
 go_enter Try.func18, Try.ntmps18
 go_wp2
 go_loopg [3, 8] k (fun kq v3 v8 w' => ∃ (x3_1 : Int) (x8_1 : Int), v3 = .int .i64 x3_1 ∧ v8 = .int .i64 x8_1 ∧ Aside0 (Z54.l0 kq x3_1 l0 (l0.length : Int) x8_1 = some r) ∧ Aside0 (kq ≤ k) ∧ Drawn0 w w')
 case atStart => exact ⟨(0), (0), qc_, qc_, H', ⟨nA_ _⟩, by repeat (first | exact Drawn0.refl _ | apply Drawn0.step)⟩
 case round =>
  clear H'
  obtain ⟨x3_1, x8_1, rfl, rfl, HA, HK1, ⟨m1, rfl⟩⟩ := hrel
  cases gk with
  | zero => exact absurd HA.out (by simp [Z54.l0])
  | succ k1 =>
   have H := HA.out
   clear HA
   simp only [Z54.l0] at H
   by_cases c2 : x8_1 < (l0.length : Int)
   ·rw [if_pos c2] at H
    have c2b0 := oC_ c2
    clear c2
    have c3 := cp_ H
    replace H := ca_ H
    have c3b0 := oC_ c3
    clear c3
    have c4 := cp_ H
    replace H := ca_ H
    have c4b0 := oC_ c4
    clear c4
    have H' := A_ H
    clear H
    have p564 : 0 ≤ (x8_1 : Int) := oB_ qe_
    have q564 : x8_1 < (l0.length : Int) := oB_ qe_
    obtain ⟨ad564, e564, hx564_0⟩ := Kd.at_int HR0.out x8_1 p564 q564
    cases e564
    replace p564 := eq_true p564
    replace q564 := eq_true q564
    go_wp2
    go_roundg k1
    case measure => have := HK1.out; omega
    case rel => exact ⟨(wrap64 (x3_1 + (rd l0 x8_1))), (wrap64 (x8_1 + 1)), qc_, qc_, H', ⟨by have := HK1.out; omega⟩, by repeat (first | exact Drawn0.refl _ | apply Drawn0.step)⟩
   ·rw [if_neg c2] at H
    have c2b0 := oD_ c2
    clear c2
    obtain rfl := Option.some.inj H
    go_wp2
    go_ret
    exact ⟨qc_, by repeat (first | exact Drawn0.refl _ | apply Drawn0.step)⟩
def Z43.f (k : Nat) (r u : List Int) : Option Int := (M.orbitO k r u).bind fun z => match z with | none => some (-1) | some s => some (s.L.length : Int)
theorem Z43.mono : ∀ a0 a1 k, LeO (Z43.f k a0 a1) (Z43.f (k + 1) a0 a1) := by
 intro a0 a1 k
 unfold Z43.f
 exact LeO.bind (M.orbitO_mono _ _ _) (fun z => LeO.refl _)
set_option maxHeartbeats 8000000 in
set_option maxRecDepth 100000 in
theorem Z43.calls (k : Nat) (A0_0 : Option Addr) (c0_0 : Nat) (l0_0 : List Int) (A0_1 : Option Addr) (c0_1 : Nat) (l0_1 : List Int) (r : Int) (w : World) (hr0_0 : Kd.C (Kd.int .i64) w A0_0 l0_0.length l0_0) (hc0_0 : l0_0.length ≤ c0_0) (hr0_1 : Kd.C (Kd.int .i64) w A0_1 l0_1.length l0_1) (hc0_1 : l0_1.length ≤ c0_1) (h : Z43.f k l0_0 l0_1 = some r) :
  Calls Try.prog 19 #[.agg #[.slice A0_0 l0_0.length c0_0, .slice A0_1 l0_1.length c0_1]] w fun e w' => e = .returned (.int .i64 r) ∧ Below w.heap.size w w' := by
 have hu := Try.underlying25
 have HR0_0 := A_ hr0_0; have HC0_0 := A_ hc0_0; clear hr0_0 hc0_0
 have HR0_1 := A_ hr0_1; have HC0_1 := A_ hc0_1; clear hr0_1 hc0_1
 have HB := A_ (Below.refl w.heap.size w)
 have H := h
 unfold Z43.f at H
 clear h
 obtain ⟨z, AZ, H⟩ := bi_ H
 cases z with
 | none =>
  obtain rfl := Option.some.inj H
  go_enter Try.func19, Try.ntmps19
  go_wp2_with (first | ((with_reducible refine gB_ (N := 1) rfl ?_); refine bx_ 1 #[.slice A0_0 l0_0.length c0_0, .slice A0_1 l0_1.length c0_1] 25 ?_; intro gs hg wgs hbox hb; have Bgs := A_ hbox; replace HB := b1_ hb; clear hb hbox hg; have hczgs0 := cz0_ Bgs; have hczgs1 := cz1_ Bgs; have hfzgs0 := kD_ Bgs.out 0; have hfzgs1 := kD_ Bgs.out 1) | ((with_reducible refine gA_ (f := 59) rfl ?_); refine gL_ (some 7) Try.func59 #[.agg #[.slice A0_0 l0_0.length c0_0, .slice A0_1 l0_1.length c0_1]] rfl qa_ ?_; (with_reducible refine (M.orbit_calls k _ _ l0_0 _ _ l0_1 none _ (cb_ HR0_0) HC0_0.out (cb_ HR0_1) HC0_1.out AZ.out).mono ?_); rintro e wz ⟨rfl, hb⟩; refine ⟨_, rfl, ?_⟩; replace HB := b1_ hb; clear hb))
  go_ret
  exact ⟨qb_, hB_⟩
 | some s =>
  obtain rfl := Option.some.inj H
  go_enter Try.func19, Try.ntmps19
  go_wp2_with (first | ((with_reducible refine gB_ (N := 1) rfl ?_); refine bx_ 1 #[.slice A0_0 l0_0.length c0_0, .slice A0_1 l0_1.length c0_1] 25 ?_; intro gs hg wgs hbox hb; have Bgs := A_ hbox; replace HB := b1_ hb; clear hb hbox hg; have hczgs0 := cz0_ Bgs; have hczgs1 := cz1_ Bgs; have hfzgs0 := kD_ Bgs.out 0; have hfzgs1 := kD_ Bgs.out 1) | ((with_reducible refine gA_ (f := 59) rfl ?_); refine gL_ (some 7) Try.func59 #[.agg #[.slice A0_0 l0_0.length c0_0, .slice A0_1 l0_1.length c0_1]] rfl qa_ ?_; (with_reducible refine (M.orbit_calls k _ _ l0_0 _ _ l0_1 (some s) _ (cb_ HR0_0) HC0_0.out (cb_ HR0_1) HC0_1.out AZ.out).mono ?_); rintro e wz ⟨gO, gM, nm_, col, vL, vW, vF, vB, vT, vS, rfl, hh, hb⟩; refine ⟨_, rfl, ?_⟩; replace HB := b1_ hb; have HH := A_ hh; clear hb hh; obtain ⟨AL, cL, eL⟩ := Kd.S_slice HH.out.hL; subst eL; obtain ⟨AW, cW, eW⟩ := Kd.R_slice HH.out.hW; subst eW; have hco0 : wz.cell? ⟨gO, 0, none⟩ = some (.slice AL s.L.length cL) := (blk_cell HH.out.hO 0).trans rfl; have hco1 : wz.cell? ⟨gO, 1, none⟩ = some (.slice AW s.W.length cW) := (blk_cell HH.out.hO 1).trans rfl; have hfo0 := kD_ HH.out.hO 0; have hfo1 := kD_ HH.out.hO 1))
  go_ret
  exact ⟨qb_, hB_⟩
def Z58.l0 : Nat → Int → List Int → Int → Int → Option (Bool)
 | 0, _, _, _, _ => none
 | k + 1, x1, x7, x8, x9 => if x9 < x8 then (if 0 ≤ x9 then (if x9 < (x7.length : Int) then (if (rd x7 x9) = x1 then (some true) else (Z58.l0 k x1 x7 x8 (wrap64 (x9 + 1)))) else (none)) else (none)) else (some false)
def Z58.f (k : Nat) (l0 : List Int) (a1 : Int) : Option (Bool) := Z58.l0 k a1 l0 (l0.length : Int) 0
theorem Z58.mono_l : ∀ k, (∀ y0 y1 y2 y3, LeO (Z58.l0 k y0 y1 y2 y3) (Z58.l0 (k + 1) y0 y1 y2 y3))
 | 0 => fun _ _ _ _ r h => by simp [Z58.l0] at h
 | k + 1 => by
  have ih0 := Z58.mono_l k
  ·intro y0 y1 y2 y3
   unfold Z58.l0
   repeat' first|exact ih0 _ _ _ _|exact lo_|refine LeO.ite ?_ ?_|refine LeO.bind ?_ (fun _ => ?_)
theorem Z58.mono : ∀ a0 a1 k, LeO (Z58.f k a0 a1) (Z58.f (k + 1) a0 a1) := by
 intro a0 a1 k
 have ih0 := Z58.mono_l k
 unfold Z58.f
 repeat' first|exact ih0 _ _ _ _|exact lo_|refine LeO.ite ?_ ?_|refine LeO.bind ?_ (fun _ => ?_)
set_option maxHeartbeats 8000000 in
set_option maxRecDepth 100000 in
theorem Z58.calls (k : Nat) (A0 : Option Addr) (c0 : Nat) (l0 : List Int) (a1 : Int) (r : Bool) (w : World) (hr0 : Kd.C (Kd.int .i64) w A0 l0.length l0) (hc0 : l0.length ≤ c0) (h : Z58.f k l0 a1 = some r) :
  Calls Try.prog 20 #[.slice A0 l0.length c0, .int .i64 a1] w fun e w' => e = .returned (.bool r) ∧ Drawn0 w w' := by
 have HR0 := A_ hr0
 have HC0 := A_ hc0
 clear hr0 hc0
 have H := h
 unfold Z58.f at H
 clear h
 have H' := A_ H
 clear H
 go_enter Try.func20, Try.ntmps20
 go_wp2
 go_loopg [9] k (fun kq v9 w' => ∃ (x9_1 : Int), v9 = .int .i64 x9_1 ∧ Aside0 (Z58.l0 kq a1 l0 (l0.length : Int) x9_1 = some r) ∧ Aside0 (kq ≤ k) ∧ Drawn0 w w')
 case atStart => exact ⟨(0), qc_, H', ⟨nA_ _⟩, by repeat (first | exact Drawn0.refl _ | apply Drawn0.step)⟩
 case round =>
  clear H'
  obtain ⟨x9_1, rfl, HA, HK1, ⟨m1, rfl⟩⟩ := hrel
  cases gk with
  | zero => exact absurd HA.out (by simp [Z58.l0])
  | succ k1 =>
   have H := HA.out
   clear HA
   simp only [Z58.l0] at H
   by_cases c3 : x9_1 < (l0.length : Int)
   ·rw [if_pos c3] at H
    have c3b0 := oC_ c3
    clear c3
    have c4 := cp_ H
    replace H := ca_ H
    have c4b0 := oC_ c4
    clear c4
    have c5 := cp_ H
    replace H := ca_ H
    have c5b0 := oC_ c5
    clear c5
    by_cases c6 : (rd l0 x9_1) = a1
    ·rw [if_pos c6] at H
     have c6b0 : ((rd l0 x9_1) == a1) = true := beq_iff_eq.mpr c6
     have c6b1 : ((rd l0 x9_1) != a1) = false := bne_eq_false_iff_eq.mpr c6
     clear c6
     obtain rfl := Option.some.inj H
     have p565 : 0 ≤ (x9_1 : Int) := oB_ qe_
     have q565 : x9_1 < (l0.length : Int) := oB_ qe_
     obtain ⟨ad565, e565, hx565_0⟩ := Kd.at_int HR0.out x9_1 p565 q565
     cases e565
     replace p565 := eq_true p565
     replace q565 := eq_true q565
     go_wp2
     go_ret
     exact ⟨qc_, by repeat (first | exact Drawn0.refl _ | apply Drawn0.step)⟩
    ·rw [if_neg c6] at H
     have c6b0 : ((rd l0 x9_1) == a1) = false := beq_eq_false_iff_ne.mpr c6
     have c6b1 : ((rd l0 x9_1) != a1) = true := bne_iff_ne.mpr c6
     have H' := A_ H
     clear H
     have p565 : 0 ≤ (x9_1 : Int) := oB_ qe_
     have q565 : x9_1 < (l0.length : Int) := oB_ qe_
     obtain ⟨ad565, e565, hx565_0⟩ := Kd.at_int HR0.out x9_1 p565 q565
     cases e565
     replace p565 := eq_true p565
     replace q565 := eq_true q565
     go_wp2
     go_roundg k1
     case measure => have := HK1.out; omega
     case rel => exact ⟨(wrap64 (x9_1 + 1)), qc_, H', ⟨by have := HK1.out; omega⟩, by repeat (first | exact Drawn0.refl _ | apply Drawn0.step)⟩
   ·rw [if_neg c3] at H
    have c3b0 := oD_ c3
    clear c3
    obtain rfl := Option.some.inj H
    go_wp2
    go_ret
    exact ⟨qc_, by repeat (first | exact Drawn0.refl _ | apply Drawn0.step)⟩
def Z8.f (k : Nat) (l0_0 : List Int) (l0_1 : List Int) (l1_0 : List Int) (l1_1 : List Int) : Option (Bool) := (Z41.f k l0_0 l0_1).bind fun bt568 => ((Z41.f k l1_0 l1_1).bind fun bt576 => (if bt568.2.2 = true then (if bt576.2.2 = true then ((Z20.f k bt568.1 bt568.2.1 bt576.1 bt576.2.1).bind fun t584 => (some t584)) else (some false)) else (some false)))
theorem Z8.mono : ∀ a0 a1 a2 a3 k, LeO (Z8.f k a0 a1 a2 a3) (Z8.f (k + 1) a0 a1 a2 a3) := by
 intro a0 a1 a2 a3 k
 unfold Z8.f
 repeat' first|exact Z41.mono _ _ _|exact Z20.mono _ _ _ _ _|exact lo_|refine LeO.ite ?_ ?_|refine LeO.bind ?_ (fun _ => ?_)
set_option maxHeartbeats 8000000 in
set_option maxRecDepth 100000 in
theorem Z8.calls (k : Nat) (A0_0 : Option Addr) (c0_0 : Nat) (l0_0 : List Int) (A0_1 : Option Addr) (c0_1 : Nat) (l0_1 : List Int) (A1_0 : Option Addr) (c1_0 : Nat) (l1_0 : List Int) (A1_1 : Option Addr) (c1_1 : Nat) (l1_1 : List Int) (r : Bool) (w : World) (hr0_0 : Kd.C (Kd.int .i64) w A0_0 l0_0.length l0_0) (hc0_0 : l0_0.length ≤ c0_0) (hr0_1 : Kd.C (Kd.int .i64) w A0_1 l0_1.length l0_1) (hc0_1 : l0_1.length ≤ c0_1) (hr1_0 : Kd.C (Kd.int .i64) w A1_0 l1_0.length l1_0) (hc1_0 : l1_0.length ≤ c1_0) (hr1_1 : Kd.C (Kd.int .i64) w A1_1 l1_1.length l1_1) (hc1_1 : l1_1.length ≤ c1_1) (h : Z8.f k l0_0 l0_1 l1_0 l1_1 = some r) :
  Calls Try.prog 21 #[.agg #[.slice A0_0 l0_0.length c0_0, .slice A0_1 l0_1.length c0_1], .agg #[.slice A1_0 l1_0.length c1_0, .slice A1_1 l1_1.length c1_1]] w fun e w' => e = .returned (.bool r) ∧ Below w.heap.size w w' := by
 have hu25 := Try.underlying25
 have HR0_0 := A_ hr0_0
 have HC0_0 := A_ hc0_0
 clear hr0_0 hc0_0
 have HR0_1 := A_ hr0_1
 have HC0_1 := A_ hc0_1
 clear hr0_1 hc0_1
 have HR1_0 := A_ hr1_0
 have HC1_0 := A_ hc1_0
 clear hr1_0 hc1_0
 have HR1_1 := A_ hr1_1
 have HC1_1 := A_ hc1_1
 clear hr1_1 hc1_1
 have HB := A_ (Below.refl w.heap.size w)
 have H := h
 unfold Z8.f at H
 clear h
 obtain ⟨⟨t568, t571, t574⟩, A3, H⟩ := bi_ H
 try dsimp only at H
 obtain ⟨⟨t576, t579, t582⟩, A4, H⟩ := bi_ H
 try dsimp only at H
 by_cases c5 : t574 = true
 ·subst c5
  rw [if_pos rfl] at H
  by_cases c6 : t582 = true
  ·subst c6
   rw [if_pos rfl] at H
   obtain ⟨t584, A7, H⟩ := bi_ H
   obtain rfl := Option.some.inj H
   go_enter Try.func21, Try.ntmps21
   go_wp2_with (first | ((with_reducible refine gB_ (N := 2) rfl ?_); refine bx_ 2 #[.slice A0_0 l0_0.length c0_0, .slice A0_1 l0_1.length c0_1] 25 ?_; intro gb566 hg w8 hbox hb; have BK566 := A_ hbox; have GW566 := gw_ w hg; have GE566 := GW566; replace HB := b1_ hb; clear hb hbox hg) | ((with_reducible refine gB_ (N := 3) rfl ?_); refine bx_ 3 #[.slice A1_0 l1_0.length c1_0, .slice A1_1 l1_1.length c1_1] 25 ?_; intro gb567 hg w9 hbox hb; have BK567 := A_ hbox; have GW567 := gw_ w hg; have GE567 := GW567; replace HB := b1_ hb; have NB566_567 := gN_ BK566 hg; have NB567_566 := gP_ BK566 hg; replace BK566 := bb_ BK566 hb; clear hb hbox hg; have hnb10 := NB566_567.out; have hnc10 := NB567_566.out; obtain ⟨hcz11_0, hcz11_1, hfz11_0, hfz11_1⟩ := c2_ BK566) | ((with_reducible refine gA_ (f := 28) rfl ?_); refine gL_ (some 11) Try.func28 #[.agg #[.slice A0_0 l0_0.length c0_0, .slice A0_1 l0_1.length c0_1]] rfl qa_ ?_; (with_reducible refine (Z41.calls k _ _ l0_0 _ _ l0_1 t568 t571 true _ (cb_ HR0_0) HC0_0.out (cb_ HR0_1) HC0_1.out A3.out).mono ?_); rintro e w12 ⟨v569, v572, rfl, ho0, ho1, hb⟩; refine ⟨_, rfl, ?_⟩; have HO570 := rl_ w ho0; have HO573 := rl_ w ho1; replace BK566 := bb_ BK566 hb; replace BK567 := bb_ BK567 hb; replace HB := b1_ hb; clear hb ho0 ho1) | ((with_reducible refine gB_ (N := 5) rfl ?_); refine bx_ 5 #[.slice none 0 0, .slice none 0 0] 25 ?_; intro gb575 hg w13 hbox hb; replace HO570 := rb_ HO570 hb; replace HO573 := rb_ HO573 hb; have BK575 := A_ hbox; have GW575 := gw_ w hg; have GE575 := GW575; replace HB := b1_ hb; have NB566_575 := gN_ BK566 hg; have NB575_566 := gP_ BK566 hg; replace BK566 := bb_ BK566 hb; have NB567_575 := gN_ BK567 hg; have NB575_567 := gP_ BK567 hg; replace BK567 := bb_ BK567 hb; clear hb hbox hg; obtain ⟨Ao14, co14, eo14⟩ := Kd.R_slice HO570.out; subst eo14; have hnb15 := NB575_566.out; have hnc15 := NB566_575.out; have hnb16 := NB575_567.out; have hnc16 := NB567_575.out; obtain ⟨hcz17_0, hcz17_1, hfz17_0, hfz17_1⟩ := c2_ BK575; obtain ⟨Ao18, co18, eo18⟩ := Kd.R_slice HO573.out; subst eo18; obtain ⟨hcz19_0, hcz19_1, hfz19_0, hfz19_1⟩ := c2_ BK567) | ((with_reducible refine gA_ (f := 28) rfl ?_); refine gL_ (some 16) Try.func28 #[.agg #[.slice A1_0 l1_0.length c1_0, .slice A1_1 l1_1.length c1_1]] rfl qa_ ?_; (with_reducible refine (Z41.calls k _ _ l1_0 _ _ l1_1 t576 t579 true _ (cD_ HR1_0.out hB_) HC1_0.out (cD_ HR1_1.out hB_) HC1_1.out A4.out).mono ?_); rintro e w20 ⟨v577, v580, rfl, ho0, ho1, hb⟩; refine ⟨_, rfl, ?_⟩; have HO578 := A_ (rE_ (Kd.R_new' (Kd.R_new' ho0 (Kd.R_lt (rw_ (fa_ HO570 BK575)))) (Kd.R_lt (rw_ (fa_ HO573 BK575)))) (bF_ hB_)); have HO581 := A_ (rE_ (Kd.R_new' (Kd.R_new' ho1 (Kd.R_lt (rw_ (fa_ HO570 BK575)))) (Kd.R_lt (rw_ (fa_ HO573 BK575)))) (bF_ hB_)); replace HO570 := A_ (Kd.R_mono (Kd.R_told (Kd.R_told (Kd.R_old (rw_ (fa_ HO570 BK575)) hb) (Kd.R_base ho0)) (Kd.R_base ho1)) (fun _ h_ => h_.1)); replace HO573 := A_ (Kd.R_mono (Kd.R_told (Kd.R_told (Kd.R_old (rw_ (fa_ HO573 BK575)) hb) (Kd.R_base ho0)) (Kd.R_base ho1)) (fun _ h_ => h_.1)); replace BK566 := A_ (kE_ (g := gb566) (o := .cells #[.slice A0_0 l0_0.length c0_0, .slice A0_1 l0_1.length c0_1] 25 (0, 0)) (by (with_reducible repeat (first | refine kA_ ?_ _ | refine kB_ ?_ | refine kC_ ?_ _)); refine blk_far ?_ NB566_575.out _; (with_reducible repeat (first | refine kA_ ?_ _ | refine kB_ ?_ | refine kC_ ?_ _)); refine blk_far ?_ NB566_575.out _; (with_reducible repeat (first | refine kA_ ?_ _ | refine kB_ ?_ | refine kC_ ?_ _)); exact BK566.out) hb); replace BK567 := A_ (kE_ (g := gb567) (o := .cells #[.slice A1_0 l1_0.length c1_0, .slice A1_1 l1_1.length c1_1] 25 (0, 0)) (by (with_reducible repeat (first | refine kA_ ?_ _ | refine kB_ ?_ | refine kC_ ?_ _)); refine blk_far ?_ NB567_575.out _; (with_reducible repeat (first | refine kA_ ?_ _ | refine kB_ ?_ | refine kC_ ?_ _)); refine blk_far ?_ NB567_575.out _; (with_reducible repeat (first | refine kA_ ?_ _ | refine kB_ ?_ | refine kC_ ?_ _)); exact BK567.out) hb); replace BK575 := A_ (kE_ (g := gb575) (o := .cells #[.slice Ao14 t568.length co14, .slice Ao18 t571.length co18] 25 (0, 0)) qp_ hb); replace HB := b1_ hb; clear hb ho0 ho1) | ((with_reducible refine gB_ (N := 7) rfl ?_); refine bx_ 7 #[.slice none 0 0, .slice none 0 0] 25 ?_; intro gb583 hg w21 hbox hb; replace HO570 := rb_ HO570 hb; replace HO573 := rb_ HO573 hb; replace HO578 := rb_ HO578 hb; replace HO581 := rb_ HO581 hb; have BK583 := A_ hbox; have GW583 := gw_ w hg; have GE583 := GW583; replace HB := b1_ hb; have NB566_583 := gN_ BK566 hg; have NB583_566 := gP_ BK566 hg; replace BK566 := bb_ BK566 hb; have NB567_583 := gN_ BK567 hg; have NB583_567 := gP_ BK567 hg; replace BK567 := bb_ BK567 hb; have NB575_583 := gN_ BK575 hg; have NB583_575 := gP_ BK575 hg; replace BK575 := bb_ BK575 hb; clear hb hbox hg; obtain ⟨Ao22, co22, eo22⟩ := Kd.R_slice HO578.out; subst eo22; have hnb23 := NB583_566.out; have hnc23 := NB566_583.out; have hnb24 := NB583_567.out; have hnc24 := NB567_583.out; have hnb25 := NB583_575.out; have hnc25 := NB575_583.out; obtain ⟨hcz26_0, hcz26_1, hfz26_0, hfz26_1⟩ := c2_ BK583; obtain ⟨Ao27, co27, eo27⟩ := Kd.R_slice HO581.out; subst eo27; obtain ⟨hcz28_0, hcz28_1, hfz28_0, hfz28_1⟩ := c2_ BK575) | (go_at_call 29; (with_reducible refine (Z20.calls k _ _ t568 _ _ t571 _ _ t576 _ _ t579 t584 _ ?side1 ?side2 ?side3 ?side4 ?side5 ?side6 ?side7 ?side8 A7.out).mono ?_); (case side1 => refine (Kd.R_reads' (e := 3) (base := w.heap.size) (ok := fun k_ => ((some k_ ≠ (.slice Ao18 t571.length co18 : Value).ownBlock ∧ some k_ ≠ (.slice Ao22 t576.length co22 : Value).ownBlock) ∧ some k_ ≠ (.slice Ao27 t579.length co27 : Value).ownBlock)) (n := t568.length) (c := co14) ?_).2.2; exact (rw_ (fa_ HO570 BK583))); (case side2 => exact (Kd.R_reads' HO570.out).2.1); (case side3 => refine (Kd.R_reads' (e := 3) (base := w.heap.size) (ok := fun k_ => ((some k_ ≠ (.slice Ao14 t568.length co14 : Value).ownBlock ∧ some k_ ≠ (.slice Ao22 t576.length co22 : Value).ownBlock) ∧ some k_ ≠ (.slice Ao27 t579.length co27 : Value).ownBlock)) (n := t571.length) (c := co18) ?_).2.2; exact (rw_ (fa_ HO573 BK583))); (case side4 => exact (Kd.R_reads' HO573.out).2.1); (case side5 => refine (Kd.R_reads' (e := 3) (base := w.heap.size) (ok := fun k_ => ((some k_ ≠ (.slice Ao27 t579.length co27 : Value).ownBlock ∧ some k_ ≠ (.slice Ao14 t568.length co14 : Value).ownBlock) ∧ some k_ ≠ (.slice Ao18 t571.length co18 : Value).ownBlock)) (n := t576.length) (c := co22) ?_).2.2; exact (rw_ (fa_ HO578 BK583))); (case side6 => exact (Kd.R_reads' HO578.out).2.1); (case side7 => refine (Kd.R_reads' (e := 3) (base := w.heap.size) (ok := fun k_ => ((some k_ ≠ (.slice Ao22 t576.length co22 : Value).ownBlock ∧ some k_ ≠ (.slice Ao14 t568.length co14 : Value).ownBlock) ∧ some k_ ≠ (.slice Ao18 t571.length co18 : Value).ownBlock)) (n := t579.length) (c := co27) ?_).2.2; exact (rw_ (fa_ HO581 BK583))); (case side8 => exact (Kd.R_reads' HO581.out).2.1); rintro e w29 ⟨rfl, hb⟩; replace HO570 := A_ (rD_ (rw_ (fa_ HO570 BK583)) hb); replace HO573 := A_ (rD_ (rw_ (fa_ HO573 BK583)) hb); replace HO578 := A_ (rD_ (rw_ (fa_ HO578 BK583)) hb); replace HO581 := A_ (rD_ (rw_ (fa_ HO581 BK583)) hb); replace BK566 := A_ (kE_ (g := gb566) (o := .cells #[.slice A0_0 l0_0.length c0_0, .slice A0_1 l0_1.length c0_1] 25 (0, 0)) (by (with_reducible repeat (first | refine kA_ ?_ _ | refine kB_ ?_ | refine kC_ ?_ _)); refine blk_far ?_ NB566_583.out _; (with_reducible repeat (first | refine kA_ ?_ _ | refine kB_ ?_ | refine kC_ ?_ _)); refine blk_far ?_ NB566_583.out _; (with_reducible repeat (first | refine kA_ ?_ _ | refine kB_ ?_ | refine kC_ ?_ _)); exact BK566.out) hb); replace BK567 := A_ (kE_ (g := gb567) (o := .cells #[.slice A1_0 l1_0.length c1_0, .slice A1_1 l1_1.length c1_1] 25 (0, 0)) (by (with_reducible repeat (first | refine kA_ ?_ _ | refine kB_ ?_ | refine kC_ ?_ _)); refine blk_far ?_ NB567_583.out _; (with_reducible repeat (first | refine kA_ ?_ _ | refine kB_ ?_ | refine kC_ ?_ _)); refine blk_far ?_ NB567_583.out _; (with_reducible repeat (first | refine kA_ ?_ _ | refine kB_ ?_ | refine kC_ ?_ _)); exact BK567.out) hb); replace BK575 := A_ (kE_ (g := gb575) (o := .cells #[.slice Ao14 t568.length co14, .slice Ao18 t571.length co18] 25 (0, 0)) (by (with_reducible repeat (first | refine kA_ ?_ _ | refine kB_ ?_ | refine kC_ ?_ _)); refine blk_far ?_ NB575_583.out _; (with_reducible repeat (first | refine kA_ ?_ _ | refine kB_ ?_ | refine kC_ ?_ _)); refine blk_far ?_ NB575_583.out _; (with_reducible repeat (first | refine kA_ ?_ _ | refine kB_ ?_ | refine kC_ ?_ _)); exact BK575.out) hb); replace BK583 := A_ (kE_ (g := gb583) (o := .cells #[.slice Ao22 t576.length co22, .slice Ao27 t579.length co27] 25 (0, 0)) qp_ hb); replace HB := b1_ hb; clear hb))
   go_ret
   exact ⟨qb_, hB_⟩
  ·replace c6 := Bool.eq_false_iff.mpr c6
   subst c6
   have H1 : (some false) = some r := by rw [if_neg (show ¬ (false = true) by decide)] at H; exact H
   clear H
   have H := H1
   clear H1
   obtain rfl := Option.some.inj H
   go_enter Try.func21, Try.ntmps21
   go_wp2_with (first | ((with_reducible refine gB_ (N := 2) rfl ?_); refine bx_ 2 #[.slice A0_0 l0_0.length c0_0, .slice A0_1 l0_1.length c0_1] 25 ?_; intro gb566 hg w30 hbox hb; have BK566 := A_ hbox; have GW566 := gw_ w hg; have GE566 := GW566; replace HB := b1_ hb; clear hb hbox hg) | ((with_reducible refine gB_ (N := 3) rfl ?_); refine bx_ 3 #[.slice A1_0 l1_0.length c1_0, .slice A1_1 l1_1.length c1_1] 25 ?_; intro gb567 hg w31 hbox hb; have BK567 := A_ hbox; have GW567 := gw_ w hg; have GE567 := GW567; replace HB := b1_ hb; have NB566_567 := gN_ BK566 hg; have NB567_566 := gP_ BK566 hg; replace BK566 := bb_ BK566 hb; clear hb hbox hg; have hnb32 := NB566_567.out; have hnc32 := NB567_566.out; obtain ⟨hcz33_0, hcz33_1, hfz33_0, hfz33_1⟩ := c2_ BK566) | ((with_reducible refine gA_ (f := 28) rfl ?_); refine gL_ (some 11) Try.func28 #[.agg #[.slice A0_0 l0_0.length c0_0, .slice A0_1 l0_1.length c0_1]] rfl qa_ ?_; (with_reducible refine (Z41.calls k _ _ l0_0 _ _ l0_1 t568 t571 true _ (cb_ HR0_0) HC0_0.out (cb_ HR0_1) HC0_1.out A3.out).mono ?_); rintro e w34 ⟨v569, v572, rfl, ho0, ho1, hb⟩; refine ⟨_, rfl, ?_⟩; have HO570 := rl_ w ho0; have HO573 := rl_ w ho1; replace BK566 := bb_ BK566 hb; replace BK567 := bb_ BK567 hb; replace HB := b1_ hb; clear hb ho0 ho1) | ((with_reducible refine gB_ (N := 5) rfl ?_); refine bx_ 5 #[.slice none 0 0, .slice none 0 0] 25 ?_; intro gb575 hg w35 hbox hb; replace HO570 := rb_ HO570 hb; replace HO573 := rb_ HO573 hb; have BK575 := A_ hbox; have GW575 := gw_ w hg; have GE575 := GW575; replace HB := b1_ hb; have NB566_575 := gN_ BK566 hg; have NB575_566 := gP_ BK566 hg; replace BK566 := bb_ BK566 hb; have NB567_575 := gN_ BK567 hg; have NB575_567 := gP_ BK567 hg; replace BK567 := bb_ BK567 hb; clear hb hbox hg; obtain ⟨Ao36, co36, eo36⟩ := Kd.R_slice HO570.out; subst eo36; have hnb37 := NB575_566.out; have hnc37 := NB566_575.out; have hnb38 := NB575_567.out; have hnc38 := NB567_575.out; obtain ⟨hcz39_0, hcz39_1, hfz39_0, hfz39_1⟩ := c2_ BK575; obtain ⟨Ao40, co40, eo40⟩ := Kd.R_slice HO573.out; subst eo40; obtain ⟨hcz41_0, hcz41_1, hfz41_0, hfz41_1⟩ := c2_ BK567) | ((with_reducible refine gA_ (f := 28) rfl ?_); refine gL_ (some 16) Try.func28 #[.agg #[.slice A1_0 l1_0.length c1_0, .slice A1_1 l1_1.length c1_1]] rfl qa_ ?_; (with_reducible refine (Z41.calls k _ _ l1_0 _ _ l1_1 t576 t579 false _ (cD_ HR1_0.out hB_) HC1_0.out (cD_ HR1_1.out hB_) HC1_1.out A4.out).mono ?_); rintro e w42 ⟨v577, v580, rfl, ho0, ho1, hb⟩; refine ⟨_, rfl, ?_⟩; have HO578 := A_ (rE_ (Kd.R_new' (Kd.R_new' ho0 (Kd.R_lt (rw_ (fa_ HO570 BK575)))) (Kd.R_lt (rw_ (fa_ HO573 BK575)))) (bF_ hB_)); have HO581 := A_ (rE_ (Kd.R_new' (Kd.R_new' ho1 (Kd.R_lt (rw_ (fa_ HO570 BK575)))) (Kd.R_lt (rw_ (fa_ HO573 BK575)))) (bF_ hB_)); replace HO570 := A_ (Kd.R_mono (Kd.R_told (Kd.R_told (Kd.R_old (rw_ (fa_ HO570 BK575)) hb) (Kd.R_base ho0)) (Kd.R_base ho1)) (fun _ h_ => h_.1)); replace HO573 := A_ (Kd.R_mono (Kd.R_told (Kd.R_told (Kd.R_old (rw_ (fa_ HO573 BK575)) hb) (Kd.R_base ho0)) (Kd.R_base ho1)) (fun _ h_ => h_.1)); replace BK566 := A_ (kE_ (g := gb566) (o := .cells #[.slice A0_0 l0_0.length c0_0, .slice A0_1 l0_1.length c0_1] 25 (0, 0)) (by (with_reducible repeat (first | refine kA_ ?_ _ | refine kB_ ?_ | refine kC_ ?_ _)); refine blk_far ?_ NB566_575.out _; (with_reducible repeat (first | refine kA_ ?_ _ | refine kB_ ?_ | refine kC_ ?_ _)); refine blk_far ?_ NB566_575.out _; (with_reducible repeat (first | refine kA_ ?_ _ | refine kB_ ?_ | refine kC_ ?_ _)); exact BK566.out) hb); replace BK567 := A_ (kE_ (g := gb567) (o := .cells #[.slice A1_0 l1_0.length c1_0, .slice A1_1 l1_1.length c1_1] 25 (0, 0)) (by (with_reducible repeat (first | refine kA_ ?_ _ | refine kB_ ?_ | refine kC_ ?_ _)); refine blk_far ?_ NB567_575.out _; (with_reducible repeat (first | refine kA_ ?_ _ | refine kB_ ?_ | refine kC_ ?_ _)); refine blk_far ?_ NB567_575.out _; (with_reducible repeat (first | refine kA_ ?_ _ | refine kB_ ?_ | refine kC_ ?_ _)); exact BK567.out) hb); replace BK575 := A_ (kE_ (g := gb575) (o := .cells #[.slice Ao36 t568.length co36, .slice Ao40 t571.length co40] 25 (0, 0)) qp_ hb); replace HB := b1_ hb; clear hb ho0 ho1) | ((with_reducible refine gB_ (N := 7) rfl ?_); refine bx_ 7 #[.slice none 0 0, .slice none 0 0] 25 ?_; intro gb583 hg w43 hbox hb; replace HO570 := rb_ HO570 hb; replace HO573 := rb_ HO573 hb; replace HO578 := rb_ HO578 hb; replace HO581 := rb_ HO581 hb; have BK583 := A_ hbox; have GW583 := gw_ w hg; have GE583 := GW583; replace HB := b1_ hb; have NB566_583 := gN_ BK566 hg; have NB583_566 := gP_ BK566 hg; replace BK566 := bb_ BK566 hb; have NB567_583 := gN_ BK567 hg; have NB583_567 := gP_ BK567 hg; replace BK567 := bb_ BK567 hb; have NB575_583 := gN_ BK575 hg; have NB583_575 := gP_ BK575 hg; replace BK575 := bb_ BK575 hb; clear hb hbox hg; obtain ⟨Ao44, co44, eo44⟩ := Kd.R_slice HO578.out; subst eo44; have hnb45 := NB583_566.out; have hnc45 := NB566_583.out; have hnb46 := NB583_567.out; have hnc46 := NB567_583.out; have hnb47 := NB583_575.out; have hnc47 := NB575_583.out; obtain ⟨hcz48_0, hcz48_1, hfz48_0, hfz48_1⟩ := c2_ BK583; obtain ⟨Ao49, co49, eo49⟩ := Kd.R_slice HO581.out; subst eo49))
   go_ret
   exact ⟨qb_, hB_⟩
 ·replace c5 := Bool.eq_false_iff.mpr c5
  subst c5
  have H1 : (some false) = some r := by rw [if_neg (show ¬ (false = true) by decide)] at H; exact H
  clear H
  have H := H1
  clear H1
  obtain rfl := Option.some.inj H
  go_enter Try.func21, Try.ntmps21
  go_wp2_with (first | ((with_reducible refine gB_ (N := 2) rfl ?_); refine bx_ 2 #[.slice A0_0 l0_0.length c0_0, .slice A0_1 l0_1.length c0_1] 25 ?_; intro gb566 hg w50 hbox hb; have BK566 := A_ hbox; have GW566 := gw_ w hg; have GE566 := GW566; replace HB := b1_ hb; clear hb hbox hg) | ((with_reducible refine gB_ (N := 3) rfl ?_); refine bx_ 3 #[.slice A1_0 l1_0.length c1_0, .slice A1_1 l1_1.length c1_1] 25 ?_; intro gb567 hg w51 hbox hb; have BK567 := A_ hbox; have GW567 := gw_ w hg; have GE567 := GW567; replace HB := b1_ hb; have NB566_567 := gN_ BK566 hg; have NB567_566 := gP_ BK566 hg; replace BK566 := bb_ BK566 hb; clear hb hbox hg; have hnb52 := NB566_567.out; have hnc52 := NB567_566.out; obtain ⟨hcz53_0, hcz53_1, hfz53_0, hfz53_1⟩ := c2_ BK566) | ((with_reducible refine gA_ (f := 28) rfl ?_); refine gL_ (some 11) Try.func28 #[.agg #[.slice A0_0 l0_0.length c0_0, .slice A0_1 l0_1.length c0_1]] rfl qa_ ?_; (with_reducible refine (Z41.calls k _ _ l0_0 _ _ l0_1 t568 t571 false _ (cb_ HR0_0) HC0_0.out (cb_ HR0_1) HC0_1.out A3.out).mono ?_); rintro e w54 ⟨v569, v572, rfl, ho0, ho1, hb⟩; refine ⟨_, rfl, ?_⟩; have HO570 := rl_ w ho0; have HO573 := rl_ w ho1; replace BK566 := bb_ BK566 hb; replace BK567 := bb_ BK567 hb; replace HB := b1_ hb; clear hb ho0 ho1) | ((with_reducible refine gB_ (N := 5) rfl ?_); refine bx_ 5 #[.slice none 0 0, .slice none 0 0] 25 ?_; intro gb575 hg w55 hbox hb; replace HO570 := rb_ HO570 hb; replace HO573 := rb_ HO573 hb; have BK575 := A_ hbox; have GW575 := gw_ w hg; have GE575 := GW575; replace HB := b1_ hb; have NB566_575 := gN_ BK566 hg; have NB575_566 := gP_ BK566 hg; replace BK566 := bb_ BK566 hb; have NB567_575 := gN_ BK567 hg; have NB575_567 := gP_ BK567 hg; replace BK567 := bb_ BK567 hb; clear hb hbox hg; obtain ⟨Ao56, co56, eo56⟩ := Kd.R_slice HO570.out; subst eo56; have hnb57 := NB575_566.out; have hnc57 := NB566_575.out; have hnb58 := NB575_567.out; have hnc58 := NB567_575.out; obtain ⟨hcz59_0, hcz59_1, hfz59_0, hfz59_1⟩ := c2_ BK575; obtain ⟨Ao60, co60, eo60⟩ := Kd.R_slice HO573.out; subst eo60; obtain ⟨hcz61_0, hcz61_1, hfz61_0, hfz61_1⟩ := c2_ BK567) | ((with_reducible refine gA_ (f := 28) rfl ?_); refine gL_ (some 16) Try.func28 #[.agg #[.slice A1_0 l1_0.length c1_0, .slice A1_1 l1_1.length c1_1]] rfl qa_ ?_; (with_reducible refine (Z41.calls k _ _ l1_0 _ _ l1_1 t576 t579 t582 _ (cD_ HR1_0.out hB_) HC1_0.out (cD_ HR1_1.out hB_) HC1_1.out A4.out).mono ?_); rintro e w62 ⟨v577, v580, rfl, ho0, ho1, hb⟩; refine ⟨_, rfl, ?_⟩; have HO578 := A_ (rE_ (Kd.R_new' (Kd.R_new' ho0 (Kd.R_lt (rw_ (fa_ HO570 BK575)))) (Kd.R_lt (rw_ (fa_ HO573 BK575)))) (bF_ hB_)); have HO581 := A_ (rE_ (Kd.R_new' (Kd.R_new' ho1 (Kd.R_lt (rw_ (fa_ HO570 BK575)))) (Kd.R_lt (rw_ (fa_ HO573 BK575)))) (bF_ hB_)); replace HO570 := A_ (Kd.R_mono (Kd.R_told (Kd.R_told (Kd.R_old (rw_ (fa_ HO570 BK575)) hb) (Kd.R_base ho0)) (Kd.R_base ho1)) (fun _ h_ => h_.1)); replace HO573 := A_ (Kd.R_mono (Kd.R_told (Kd.R_told (Kd.R_old (rw_ (fa_ HO573 BK575)) hb) (Kd.R_base ho0)) (Kd.R_base ho1)) (fun _ h_ => h_.1)); replace BK566 := A_ (kE_ (g := gb566) (o := .cells #[.slice A0_0 l0_0.length c0_0, .slice A0_1 l0_1.length c0_1] 25 (0, 0)) (by (with_reducible repeat (first | refine kA_ ?_ _ | refine kB_ ?_ | refine kC_ ?_ _)); refine blk_far ?_ NB566_575.out _; (with_reducible repeat (first | refine kA_ ?_ _ | refine kB_ ?_ | refine kC_ ?_ _)); refine blk_far ?_ NB566_575.out _; (with_reducible repeat (first | refine kA_ ?_ _ | refine kB_ ?_ | refine kC_ ?_ _)); exact BK566.out) hb); replace BK567 := A_ (kE_ (g := gb567) (o := .cells #[.slice A1_0 l1_0.length c1_0, .slice A1_1 l1_1.length c1_1] 25 (0, 0)) (by (with_reducible repeat (first | refine kA_ ?_ _ | refine kB_ ?_ | refine kC_ ?_ _)); refine blk_far ?_ NB567_575.out _; (with_reducible repeat (first | refine kA_ ?_ _ | refine kB_ ?_ | refine kC_ ?_ _)); refine blk_far ?_ NB567_575.out _; (with_reducible repeat (first | refine kA_ ?_ _ | refine kB_ ?_ | refine kC_ ?_ _)); exact BK567.out) hb); replace BK575 := A_ (kE_ (g := gb575) (o := .cells #[.slice Ao56 t568.length co56, .slice Ao60 t571.length co60] 25 (0, 0)) qp_ hb); replace HB := b1_ hb; clear hb ho0 ho1) | ((with_reducible refine gB_ (N := 7) rfl ?_); refine bx_ 7 #[.slice none 0 0, .slice none 0 0] 25 ?_; intro gb583 hg w63 hbox hb; replace HO570 := rb_ HO570 hb; replace HO573 := rb_ HO573 hb; replace HO578 := rb_ HO578 hb; replace HO581 := rb_ HO581 hb; have BK583 := A_ hbox; have GW583 := gw_ w hg; have GE583 := GW583; replace HB := b1_ hb; have NB566_583 := gN_ BK566 hg; have NB583_566 := gP_ BK566 hg; replace BK566 := bb_ BK566 hb; have NB567_583 := gN_ BK567 hg; have NB583_567 := gP_ BK567 hg; replace BK567 := bb_ BK567 hb; have NB575_583 := gN_ BK575 hg; have NB583_575 := gP_ BK575 hg; replace BK575 := bb_ BK575 hb; clear hb hbox hg; obtain ⟨Ao64, co64, eo64⟩ := Kd.R_slice HO578.out; subst eo64; have hnb65 := NB583_566.out; have hnc65 := NB566_583.out; have hnb66 := NB583_567.out; have hnc66 := NB567_583.out; have hnb67 := NB583_575.out; have hnc67 := NB575_583.out; obtain ⟨hcz68_0, hcz68_1, hfz68_0, hfz68_1⟩ := c2_ BK583; obtain ⟨Ao69, co69, eo69⟩ := Kd.R_slice HO581.out; subst eo69))
  go_ret
  exact ⟨qb_, hB_⟩
end Go.Proofs.Ytcggfjpnfodbaaa.A
end
section
namespace Go.Proofs.Ytcggfjpnfodbaaa.A
open Go.RowKit Go.Proofs.YtcggfjpnfodbaaaW.PrintWords Go.Proofs.YtcggfjpnfodbaaaW.PrintLast Go.Proofs.YtcggfjpnfodbaaaW.PrintMore
attribute [local go_sem] max2_int min2_int max_two min_two max_three min_three max_four min_four
set_option linter.unusedVariables false
set_option linter.unusedSimpArgs false
mutual
def Z44.j0 : Nat → Int → Bool → List Int → List Int → Option (Bool)
 | 0, _, _, _, _ => none
 | k + 1, x6, x63, x592000, x592001 => if x63 = true then (some false) else (Z44.l0 k x6 0 x592000 x592001 x592000 x592001)
def Z44.l0 : Nat → Int → Int → List Int → List Int → List Int → List Int → Option (Bool)
 | 0, _, _, _, _, _, _ => none
 | k + 1, x6, x9, x592000, x592001, x608000, x608001 => if x9 < x6 then (if x9 > 0 then ((Z8.f k x608000 x608001 x592000 x592001).bind fun t609 => (Z44.j2 k x6 x9 t609 x592000 x592001 x608000 x608001)) else (Z44.j2 k x6 x9 false x592000 x592001 x608000 x608001)) else ((Z8.f k x608000 x608001 x592000 x592001).bind fun t608 => (some t608))
def Z44.j2 : Nat → Int → Int → Bool → List Int → List Int → List Int → List Int → Option (Bool)
 | 0, _, _, _, _, _, _, _ => none
 | k + 1, x6, x9, x76, x592000, x592001, x608000, x608001 => if x76 = true then (some false) else ((Z15.f k x608000 x608001).bind fun bt610 => (if bt610.2.2 = true then (Z44.l0 k x6 (wrap64 (x9 + 1)) x592000 x592001 bt610.1 bt610.2.1) else (some false)))
end
def Z44.f (k : Nat) (l0 : List Int) : Option (Bool) := if (l0.length : Int) > 1048576 then (some true) else ((Z45.f k l0).bind fun bt585 => ((Z42.f k bt585.1 bt585.2).bind fun bt592 => ((Z21.f k bt585.1 bt585.2).bind fun t596 => ((Z19.f k bt585.1 bt585.2).bind fun t597 => (if bt592.2 = true then ((Z54.f k bt592.1).bind fun t598 => ((Z43.f k bt585.1 bt585.2).bind fun t599 => (if t598 = t599 then (if (bt592.1.length : Int) = 0 then (Z44.j0 k t596 true bt585.1 bt585.2) else (if t596 < 1 then (Z44.j0 k t596 true bt585.1 bt585.2) else (if t596 > 120 then (Z44.j0 k t596 true bt585.1 bt585.2) else (if t597 < 1 then (Z44.j0 k t596 true bt585.1 bt585.2) else (if t596 = 0 then (none) else (if (Int.tmod t597 t596) = 0 then ((Z58.f k bt592.1 t596).bind fun t600 => (Z44.j0 k t596 (!t600) bt585.1 bt585.2)) else (Z44.j0 k t596 true bt585.1 bt585.2))))))) else (Z44.j0 k t596 true bt585.1 bt585.2)))) else (Z44.j0 k t596 true bt585.1 bt585.2))))))
theorem Z44.mono_l : ∀ k, (∀ y0 y1 y2 y3, LeO (Z44.j0 k y0 y1 y2 y3) (Z44.j0 (k + 1) y0 y1 y2 y3)) ∧ (∀ y0 y1 y2 y3 y4 y5, LeO (Z44.l0 k y0 y1 y2 y3 y4 y5) (Z44.l0 (k + 1) y0 y1 y2 y3 y4 y5)) ∧ (∀ y0 y1 y2 y3 y4 y5 y6, LeO (Z44.j2 k y0 y1 y2 y3 y4 y5 y6) (Z44.j2 (k + 1) y0 y1 y2 y3 y4 y5 y6))
 | 0 => ⟨fun _ _ _ _ r h => by simp [Z44.j0] at h, fun _ _ _ _ _ _ r h => by simp [Z44.l0] at h, fun _ _ _ _ _ _ _ r h => by simp [Z44.j2] at h⟩
 | k + 1 => by
  obtain ⟨ih0, ih1, ih2⟩ := Z44.mono_l k
  refine ⟨?_, ?_, ?_⟩
  ·intro y0 y1 y2 y3
   unfold Z44.j0
   repeat' first|exact ih0 _ _ _ _|exact ih1 _ _ _ _ _ _|exact ih2 _ _ _ _ _ _ _|exact Z8.mono _ _ _ _ _|exact Z42.mono _ _ _|exact Z43.mono _ _ _|exact Z19.mono _ _ _|exact Z21.mono _ _ _|exact Z15.mono _ _ _|exact Z58.mono _ _ _|exact Z54.mono _ _|exact Z45.mono _ _|exact lo_|refine LeO.ite ?_ ?_|refine LeO.bind ?_ (fun _ => ?_)
  ·intro y0 y1 y2 y3 y4 y5
   unfold Z44.l0
   repeat' first|exact ih0 _ _ _ _|exact ih1 _ _ _ _ _ _|exact ih2 _ _ _ _ _ _ _|exact Z8.mono _ _ _ _ _|exact Z42.mono _ _ _|exact Z43.mono _ _ _|exact Z19.mono _ _ _|exact Z21.mono _ _ _|exact Z15.mono _ _ _|exact Z58.mono _ _ _|exact Z54.mono _ _|exact Z45.mono _ _|exact lo_|refine LeO.ite ?_ ?_|refine LeO.bind ?_ (fun _ => ?_)
  ·intro y0 y1 y2 y3 y4 y5 y6
   unfold Z44.j2
   repeat' first|exact ih0 _ _ _ _|exact ih1 _ _ _ _ _ _|exact ih2 _ _ _ _ _ _ _|exact Z8.mono _ _ _ _ _|exact Z42.mono _ _ _|exact Z43.mono _ _ _|exact Z19.mono _ _ _|exact Z21.mono _ _ _|exact Z15.mono _ _ _|exact Z58.mono _ _ _|exact Z54.mono _ _|exact Z45.mono _ _|exact lo_|refine LeO.ite ?_ ?_|refine LeO.bind ?_ (fun _ => ?_)
theorem Z44.mono : ∀ a0 k, LeO (Z44.f k a0) (Z44.f (k + 1) a0) := by
 intro a0 k
 obtain ⟨ih0, ih1, ih2⟩ := Z44.mono_l k
 unfold Z44.f
 repeat' first|exact ih0 _ _ _ _|exact ih1 _ _ _ _ _ _|exact ih2 _ _ _ _ _ _ _|exact Z8.mono _ _ _ _ _|exact Z42.mono _ _ _|exact Z43.mono _ _ _|exact Z19.mono _ _ _|exact Z21.mono _ _ _|exact Z15.mono _ _ _|exact Z58.mono _ _ _|exact Z54.mono _ _|exact Z45.mono _ _|exact lo_|refine LeO.ite ?_ ?_|refine LeO.bind ?_ (fun _ => ?_)
def Z44.T7 : Bool × List (List Nat × List Nat) := (true, [([], []), ([0], [0]), ([1], [1]), ([2], [2]), ([3, 2, 2], [2, 3]), ([2], [2]), ([5, 4, 2], [2, 5]), ([4, 6, 2], [2, 4, 6]), ([2, 7], [2, 7]), ([8, 6], [8]), ([9], [9]), ([10, 9], [9, 10]), ([11, 9], [9, 11]), ([9, 12], [9, 12]), ([13, 9], [13]), ([14], [14]), ([15, 14], [14, 15]), ([14, 16], [14, 16]), ([17, 14], [17]), ([18], [18]), ([19, 18], [18, 19]), ([18, 20], [18, 20]), ([21, 18], [21]), ([22], [22]), ([23, 22], [22, 23]), ([22, 24], [22, 24]), ([25, 22], [25]), ([26], [26]), ([26], [26]), ([27, 28, 26], [26, 27, 28]), ([29, 26], [26, 29]), ([26, 30], [26, 30]), ([31, 26], [31]), ([32], [32]), ([32], [32]), ([33, 34, 32, 32], [32, 33, 34]), ([35, 32], [32, 35]), ([32, 36], [32, 36])])
def Z44.B7 : List Nat := [0, 1, 3, 7, 15, 7, 63, 127, 255, 511, 1023, 2047, 4095, 8191, 16383, 32767, 65535, 131071, 262143, 524287, 1048575, 2097151, 4194303, 8388607, 16777215, 33554431, 67108863, 134217727, 134217727, 536870911, 1073741823, 2147483647, 4294967295, 8589934591, 8589934591, 34359738367, 68719476735, 137438953471]
theorem Z44.tab7 : rtab .any (opsOf Try.f3 7) = Z44.T7 := by kernel_rfl
theorem Z44.bits7 : waitsOk Z44.T7.2 Z44.B7 = true := by kernel_rfl
set_option maxHeartbeats 8000000 in
set_option maxRecDepth 100000 in
theorem Z44.calls (k : Nat) (A0 : Option Addr) (c0 : Nat) (l0 : List Int) (r : Bool) (w : World) (hr0 : Kd.C (Kd.int .u8) w A0 l0.length l0) (hc0 : l0.length ≤ c0) (h : Z44.f k l0 = some r) (hr1_ : Aside0 (r = true)) :
  Calls Try.prog 3 #[.slice A0 l0.length c0] w fun e w' => e = .returned (.bool r) ∧ Below w.heap.size w w' := by
 have hu25 := Try.underlying25
 have HR0 := A_ hr0
 have HC0 := A_ hc0
 clear hr0 hc0
 have HB := A_ (Below.refl w.heap.size w)
 have H := h
 unfold Z44.f at H
 clear h
 by_cases c2 : (l0.length : Int) > 1048576
 ·rw [if_pos c2] at H
  have c2b0 : decide (1048576 < (l0.length : Int)) = true := oC_ c2
  have c2b1 : decide (1048576 < l0.length) = true := oC_ (by omega)
  clear c2
  obtain rfl := Option.some.inj H
  go_enter Try.func3, Try.ntmps3
  go_wp2
  go_ret
  exact ⟨qb_, hB_⟩
 ·rw [if_neg c2] at H
  have c2b0 : decide (1048576 < (l0.length : Int)) = false := oD_ c2
  have c2b1 : decide (1048576 < l0.length) = false := oD_ (by omega)
  clear c2
  obtain ⟨⟨t585, t588⟩, A3, H⟩ := bi_ H
  try dsimp only at H
  obtain ⟨⟨t592, t595⟩, A4, H⟩ := bi_ H
  try dsimp only at H
  obtain ⟨t596, A5, H⟩ := bi_ H
  obtain ⟨t597, A6, H⟩ := bi_ H
  have HC7 := A_ H
  clear H
  go_enter Try.func3, Try.ntmps3
  go_upto_region 7 with (first | ((with_reducible refine gA_ (f := 14) rfl ?_); refine gL_ (some 16) Try.func14 #[.slice A0 l0.length c0] rfl qa_ ?_; (with_reducible refine (Z45.calls k _ _ l0 t585 t588 _ (cc_ HR0) HC0.out A3.out).mono ?_); rintro e w8 ⟨v586, v589, rfl, ho0, ho1, hb⟩; refine ⟨_, rfl, ?_⟩; have HO587 := rl_ w ho0; have HO590 := rl_ w ho1; replace HB := b1_ hb; clear hb ho0 ho1) | ((with_reducible refine gB_ (N := 3) rfl ?_); (try (refine gate_guard (by rfl) ?_; dsimp only)); refine bx_ 3 #[.slice none 0 0, .slice none 0 0] 25 ?_; intro gb591 hg w9 hbox hb; replace HO587 := rb_ HO587 hb; replace HO590 := rb_ HO590 hb; have BK591 := A_ hbox; have GW591 := gw_ w hg; have GE591 := GW591; replace HB := b1_ hb; clear hb hbox hg; obtain ⟨Ao10, co10, eo10⟩ := Kd.R_slice HO587.out; subst eo10; obtain ⟨hcz11_0, hcz11_1, hfz11_0, hfz11_1⟩ := c2_ BK591; obtain ⟨Ao12, co12, eo12⟩ := Kd.R_slice HO590.out; subst eo12) | ((with_reducible refine gA_ (f := 15) rfl ?_); refine gL_ (some 19) Try.func15 #[.agg #[.slice Ao10 t585.length co10, .slice Ao12 t588.length co12]] rfl qa_ ?_; (with_reducible refine (Z42.calls k _ _ t585 _ _ t588 t592 t595 _ ?side1 ?side2 ?side3 ?side4 A4.out).mono ?_); (case side1 => refine (Kd.R_reads' (e := 3) (base := w.heap.size) (ok := fun k_ => some k_ ≠ (.slice Ao12 t588.length co12 : Value).ownBlock) (n := t585.length) (c := co10) ?_).2.2; exact (rw_ (fa_ HO587 BK591))); (case side2 => exact (Kd.R_reads' HO587.out).2.1); (case side3 => refine (Kd.R_reads' (e := 3) (base := w.heap.size) (ok := fun k_ => some k_ ≠ (.slice Ao10 t585.length co10 : Value).ownBlock) (n := t588.length) (c := co12) ?_).2.2; exact (rw_ (fa_ HO590 BK591))); (case side4 => exact (Kd.R_reads' HO590.out).2.1); rintro e w13 ⟨v593, rfl, ho0, hb⟩; refine ⟨_, rfl, ?_⟩; have HO594 := A_ (rE_ (Kd.R_new' (Kd.R_new' ho0 (Kd.R_lt (rw_ (fa_ HO587 BK591)))) (Kd.R_lt (rw_ (fa_ HO590 BK591)))) (bF_ hB_)); replace HO587 := A_ (Kd.R_elder' (rw_ (fa_ HO587 BK591)) (Kd.R_base ho0) hb); replace HO590 := A_ (Kd.R_elder' (rw_ (fa_ HO590 BK591)) (Kd.R_base ho0) hb); replace BK591 := A_ (kE_ (g := gb591) (o := .cells #[.slice Ao10 t585.length co10, .slice Ao12 t588.length co12] 25 (0, 0)) qp_ hb); replace HB := b1_ hb; clear hb ho0; obtain ⟨hcz14_0, hcz14_1, hfz14_0, hfz14_1⟩ := c2_ BK591) | ((with_reducible refine gA_ (f := 16) rfl ?_); refine gL_ (some 23) Try.func16 #[.agg #[.slice Ao10 t585.length co10, .slice Ao12 t588.length co12]] rfl qa_ ?_; (with_reducible refine (Z21.calls k _ _ t585 _ _ t588 t596 _ (cr_ HO587) ((Kd.R_reads' HO587.out).2.1) (cr_ HO590) ((Kd.R_reads' HO590.out).2.1) A5.out).mono ?_); rintro e w15 ⟨rfl, hb⟩; refine ⟨_, rfl, ?_⟩; replace HO587 := rb_ HO587 hb; replace HO590 := rb_ HO590 hb; replace HO594 := rb_ HO594 hb; replace BK591 := bb_ BK591 hb; replace HB := b1_ hb; clear hb; obtain ⟨hcz16_0, hcz16_1, hfz16_0, hfz16_1⟩ := c2_ BK591) | ((with_reducible refine gA_ (f := 17) rfl ?_); refine gL_ (some 25) Try.func17 #[.agg #[.slice Ao10 t585.length co10, .slice Ao12 t588.length co12]] rfl qa_ ?_; (with_reducible refine (Z19.calls k _ _ t585 _ _ t588 t597 _ (cr_ HO587) ((Kd.R_reads' HO587.out).2.1) (cr_ HO590) ((Kd.R_reads' HO590.out).2.1) A6.out).mono ?_); rintro e w17 ⟨rfl, hb⟩; refine ⟨_, rfl, ?_⟩; replace HO587 := rb_ HO587 hb; replace HO590 := rb_ HO590 hb; replace HO594 := rb_ HO594 hb; replace BK591 := bb_ BK591 hb; replace HB := b1_ hb; clear hb))
  (try simp only [Act.put, sA_, sB_, sC_])
  go_cut [63] (fun v63 wc => ∃ (kq : Nat) (x63_6 : Bool), v63 = .bool x63_6 ∧ Aside0 (Z44.j0 kq t596 x63_6 t585 t588 = some r) ∧ Aside0 (kq ≤ k) ∧ Aside0 (Kd.R (Kd.int .i64) 3 wc w.heap.size (fun k_ => some k_ ≠ ((.slice Ao12 t588.length co12) : Value).ownBlock) (.slice Ao10 t585.length co10) t585) ∧ Aside0 (Kd.R (Kd.int .i64) 3 wc w.heap.size (fun k_ => some k_ ≠ ((.slice Ao10 t585.length co10) : Value).ownBlock) (.slice Ao12 t588.length co12) t588) ∧ Aside0 (wc.heap[gb591]? = some (.cells #[(.slice Ao10 t585.length co10), (.slice Ao12 t588.length co12)] 25 (0, 0))) ∧ Aside0 (Below w.heap.size w wc))
  case first =>
   have H := HC7.out
   clear HC7
   by_cases c18 : t595 = true
   ·subst c18
    rw [if_pos rfl] at H
    obtain ⟨t598, A19, H⟩ := bi_ H
    obtain ⟨t599, A20, H⟩ := bi_ H
    by_cases c21 : t598 = t599
    ·rw [if_pos c21] at H
     have c21b0 : (t598 == t599) = true := beq_iff_eq.mpr c21
     have c21b1 : (t598 != t599) = false := bne_eq_false_iff_eq.mpr c21
     clear c21
     (first | rw [c21b0] | (simp only [i64_w, i32_w]; rw [c21b0]) | skip)
     by_cases c22 : (t592.length : Int) = 0
     ·rw [if_pos c22] at H
      have c22b0 : ((t592.length : Int) == 0) = true := beq_iff_eq.mpr c22
      have c22b1 : ((t592.length : Int) != 0) = false := bne_eq_false_iff_eq.mpr c22
      clear c22
      have H' := A_ H
      clear H
      try go_wp2
      replace HO587 := A_ (rC_ HO587.out)
      replace HO590 := A_ (rC_ HO590.out)
      replace HO594 := A_ (rC_ HO594.out)
      replace BK591 := A_ (kB_ BK591.out)
      replace HB := A_ (bC_ HB.out)
      obtain ⟨Ao24, co24, eo24⟩ := Kd.R_slice HO594.out
      (first | subst eo24 | (injection eo24 with f1_ f2_ f3_; have f4_ := f1_.symm; have f5_ := f3_.symm; clear f1_ f2_ f3_; subst f4_; subst f5_))
      refine start_ (n := 38) (S := fun w' => w'.cell? ⟨gb591, 0, none⟩ = some (.slice Ao10 t585.length co10) ∧ w'.cell? ⟨gb591, 1, none⟩ = some (.slice Ao12 t588.length co12)) (ds := []) (bl_ 38 0) (by kernel_rfl) rfl (by kernel_rfl) ⟨cz0_ BK591, cz1_ BK591⟩ (fun hHeld => ?_); refine with_tabW Z44.tab7 Z44.bits7 (fun HT_ HW_ => ?_)
      generalize w17.drew = w23 at HO587 HO590 HO594 BK591 HB hHeld ⊢
      refine pu_ 0 (some 26) (bl_ 38 1) HT_ ?_
      refine pu_ 1 (some 27) (bl_ 38 3) HT_ ?_
      refine pu_ 2 (some 28) (bl_ 38 7) HT_ ?_
      refine pu_ 3 (some 29) (bl_ 38 15) HT_ ?_
      refine ta_ 5 (some 31) (bl_ 38 47) HT_ HW_ hHeld ?_
      refine on_ 4 (some 30) (bl_ 38 63) HT_ (fun K hK => ?_)
      refine gO_ Try.func18 #[.slice Ao24 t592.length co24] (by rfl) rfl rfl qa_ ?_
      with_reducible refine (Z54.calls k _ _ t592 t598 _ (cr_ HO594) ((Kd.R_reads' HO594.out).2.1) A19.out).mono ?_
      rintro e w' ⟨rfl, ⟨nd, rfl⟩⟩
      refine ⟨_, rfl, ?_⟩
      refine hK.out _ _ ⟨cz0_ BK591, cz1_ BK591⟩ (fun hHeld => ?_)
      clear hK K
      refine no_ (some 30) ?_
      refine on_ 6 (some 32) (bl_ 38 127) HT_ (fun K hK => ?_)
      refine gO_ Try.func19 #[.agg #[.slice Ao10 t585.length co10, .slice Ao12 t588.length co12]] (by rfl) rfl rfl qa_ ?_
      with_reducible refine (Z43.calls k _ _ t585 _ _ t588 t599 _ (cr_ HO587) ((Kd.R_reads' HO587.out).2.1) (cr_ HO590) ((Kd.R_reads' HO590.out).2.1) A20.out).mono ?_
      rintro e w25 ⟨rfl, hb⟩
      refine ⟨_, rfl, ?_⟩
      replace HO587 := rb_ HO587 hb
      replace HO590 := rb_ HO590 hb
      replace HO594 := rb_ HO594 hb
      replace BK591 := bb_ BK591 hb
      replace HB := b1_ hb
      clear hb
      refine hK.out _ _ ⟨cz0_ BK591, cz1_ BK591⟩ (fun hHeld => ?_)
      clear hK K
      refine no_ (some 32) ?_
      refine pu_ 7 (some 33) (bl_ 38 255) HT_ ?_
      refine pu_ 8 (some 34) (bl_ 38 511) HT_ ?_
      refine pu_ 9 (some 35) (bl_ 38 1023) HT_ ?_
      refine pu_ 10 (some 36) (bl_ 38 2047) HT_ ?_
      refine pu_ 11 (some 37) (bl_ 38 4095) HT_ ?_
      refine pu_ 12 (some 38) (bl_ 38 8191) HT_ ?_
      refine pu_ 13 (some 39) (bl_ 38 16383) HT_ ?_
      refine pu_ 14 (some 40) (bl_ 38 32767) HT_ ?_
      refine pure_ (i := 15) (N := some 41) (v := undef) (a' := ?_) (bl_ 38 65535) rfl rfl (any_of HT_.out (by kernel_rfl)) (fun _ _ _ h => h) (Or.inr ⟨by rfl, rfl⟩) ?_ ?_
      rotate_left
      ·simp only [Act.put, sA_, sB_, sC_, i64_w, i32_w]
       rfl
      refine pure_ (i := 16) (N := some 42) (v := undef) (a' := ?_) (bl_ 38 131071) rfl rfl (any_of HT_.out (by kernel_rfl)) (fun _ _ _ h => h) (Or.inr ⟨by rfl, rfl⟩) ?_ ?_
      rotate_left
      ·simp only [Act.put, sA_, sB_, sC_, i64_w, i32_w]
       rfl
      refine pu_ 17 (some 43) (bl_ 38 262143) HT_ ?_
      refine pu_ 18 (some 44) (bl_ 38 524287) HT_ ?_
      refine pure_ (i := 19) (N := some 45) (v := undef) (a' := ?_) (bl_ 38 1048575) rfl rfl (any_of HT_.out (by kernel_rfl)) (fun _ _ _ h => h) (Or.inr ⟨by rfl, rfl⟩) ?_ ?_
      rotate_left
      ·simp only [Act.put, sA_, sB_, sC_, i64_w, i32_w]
       rfl
      refine pure_ (i := 20) (N := some 46) (v := undef) (a' := ?_) (bl_ 38 2097151) rfl rfl (any_of HT_.out (by kernel_rfl)) (fun _ _ _ h => h) (Or.inr ⟨by rfl, rfl⟩) ?_ ?_
      rotate_left
      ·simp only [Act.put, sA_, sB_, sC_, i64_w, i32_w]
       rfl
      refine pu_ 21 (some 47) (bl_ 38 4194303) HT_ ?_
      refine pu_ 22 (some 48) (bl_ 38 8388607) HT_ ?_
      refine pure_ (i := 23) (N := some 49) (v := undef) (a' := ?_) (bl_ 38 16777215) rfl rfl (any_of HT_.out (by kernel_rfl)) (fun _ _ _ h => h) (Or.inr ⟨by rfl, rfl⟩) ?_ ?_
      rotate_left
      ·simp only [Act.put, sA_, sB_, sC_, i64_w, i32_w]
       rfl
      refine pure_ (i := 24) (N := some 50) (v := undef) (a' := ?_) (bl_ 38 33554431) rfl rfl (any_of HT_.out (by kernel_rfl)) (fun _ _ _ h => h) (Or.inr ⟨by rfl, rfl⟩) ?_ ?_
      rotate_left
      ·simp only [Act.put, sA_, sB_, sC_, i64_w, i32_w]
       rfl
      refine pu_ 25 (some 51) (bl_ 38 67108863) HT_ ?_
      refine pu_ 26 (some 52) (bl_ 38 134217727) HT_ ?_
      refine pure_ (i := 27) (N := some 53) (v := undef) (a' := ?_) (bl_ 38 268435455) rfl rfl (any_of HT_.out (by kernel_rfl)) (fun _ _ _ h => h) (Or.inr ⟨by rfl, rfl⟩) ?_ ?_
      rotate_left
      ·simp only [Act.put, sA_, sB_, sC_, i64_w, i32_w]
       rfl
      refine pure_ (i := 28) (N := some 54) (v := undef) (a' := ?_) (bl_ 38 536870911) rfl rfl (any_of HT_.out (by kernel_rfl)) (fun _ _ _ h => h) (Or.inr ⟨by rfl, rfl⟩) ?_ ?_
      rotate_left
      ·simp only [Act.put, sA_, sB_, sC_, i64_w, i32_w]
       rfl
      refine pure_ (i := 29) (N := some 55) (v := undef) (a' := ?_) (bl_ 38 1073741823) rfl rfl (any_of HT_.out (by kernel_rfl)) (fun _ _ _ h => h) (Or.inr ⟨by rfl, rfl⟩) ?_ ?_
      rotate_left
      ·simp only [Act.put, sA_, sB_, sC_, i64_w, i32_w]
       rfl
      refine pure_ (i := 30) (N := some 56) (v := undef) (a' := ?_) (bl_ 38 2147483647) rfl rfl (any_of HT_.out (by kernel_rfl)) (fun _ _ _ h => h) (Or.inr ⟨by rfl, rfl⟩) ?_ ?_
      rotate_left
      ·simp only [Act.put, sA_, sB_, sC_, i64_w, i32_w]
       rfl
      refine pu_ 31 (some 57) (bl_ 38 4294967295) HT_ ?_
      refine pu_ 32 (some 58) (bl_ 38 8589934591) HT_ ?_
      refine pure_ (i := 33) (N := some 59) (v := undef) (a' := ?_) (bl_ 38 17179869183) rfl rfl (any_of HT_.out (by kernel_rfl)) (fun _ _ _ h => h) (Or.inr ⟨by rfl, rfl⟩) ?_ ?_
      rotate_left
      ·simp only [Act.put, sA_, sB_, sC_, i64_w, i32_w]
       rfl
      refine pure_ (i := 34) (N := some 60) (v := undef) (a' := ?_) (bl_ 38 34359738367) rfl rfl (any_of HT_.out (by kernel_rfl)) (fun _ _ _ h => h) (Or.inr ⟨by rfl, rfl⟩) ?_ ?_
      rotate_left
      ·simp only [Act.put, sA_, sB_, sC_, i64_w, i32_w]
       rfl
      refine pure_ (i := 35) (N := some 61) (v := undef) (a' := ?_) (bl_ 38 68719476735) rfl rfl (any_of HT_.out (by kernel_rfl)) (fun _ _ _ h => h) (Or.inr ⟨by rfl, rfl⟩) ?_ ?_
      rotate_left
      ·simp only [Act.put, sA_, sB_, sC_, i64_w, i32_w]
       rfl
      refine pure_ (i := 36) (N := some 62) (v := undef) (a' := ?_) (bl_ 38 137438953471) rfl rfl (any_of HT_.out (by kernel_rfl)) (fun _ _ _ h => h) (Or.inr ⟨by rfl, rfl⟩) ?_ ?_
      rotate_left
      ·simp only [Act.put, sA_, sB_, sC_, i64_w, i32_w]
       rfl
      refine pu_ 37 (some 63) (bl_ 38 274877906943) HT_ ?_
      refine done_ (done_of HT_.out (by kernel_rfl)) ?_
      try go_wp2
      go_meet
      case rel => exact ⟨_, (true), qc_, H', ⟨qd_⟩, ⟨(rw_ (Kd.R_mono HO587.out (fun _ hk => hk.1)))⟩, ⟨(rw_ (Kd.R_mono HO590.out (fun _ hk => hk.1)))⟩, ⟨(kk_ BK591)⟩, ⟨hB_⟩⟩
     ·rw [if_neg c22] at H
      have c22b0 : ((t592.length : Int) == 0) = false := beq_eq_false_iff_ne.mpr c22
      have c22b1 : ((t592.length : Int) != 0) = true := bne_iff_ne.mpr c22
      have c22b2 : ¬ (t592 = []) := fun h_ => c22 (by rw [h_]; rfl)
      by_cases c26 : t596 < 1
      ·rw [if_pos c26] at H
       have c26b0 := oC_ c26
       clear c26
       have H' := A_ H
       clear H
       try go_wp2
       replace HO587 := A_ (rC_ HO587.out)
       replace HO590 := A_ (rC_ HO590.out)
       replace HO594 := A_ (rC_ HO594.out)
       replace BK591 := A_ (kB_ BK591.out)
       replace HB := A_ (bC_ HB.out)
       obtain ⟨Ao28, co28, eo28⟩ := Kd.R_slice HO594.out
       (first | subst eo28 | (injection eo28 with f1_ f2_ f3_; have f4_ := f1_.symm; have f5_ := f3_.symm; clear f1_ f2_ f3_; subst f4_; subst f5_))
       refine start_ (n := 38) (S := fun w' => w'.cell? ⟨gb591, 0, none⟩ = some (.slice Ao10 t585.length co10) ∧ w'.cell? ⟨gb591, 1, none⟩ = some (.slice Ao12 t588.length co12)) (ds := []) (bl_ 38 0) (by kernel_rfl) rfl (by kernel_rfl) ⟨cz0_ BK591, cz1_ BK591⟩ (fun hHeld => ?_); refine with_tabW Z44.tab7 Z44.bits7 (fun HT_ HW_ => ?_)
       generalize w17.drew = w27 at HO587 HO590 HO594 BK591 HB hHeld ⊢
       refine pu_ 0 (some 26) (bl_ 38 1) HT_ ?_
       refine pu_ 1 (some 27) (bl_ 38 3) HT_ ?_
       refine pu_ 2 (some 28) (bl_ 38 7) HT_ ?_
       refine pu_ 3 (some 29) (bl_ 38 15) HT_ ?_
       refine ta_ 5 (some 31) (bl_ 38 47) HT_ HW_ hHeld ?_
       refine on_ 4 (some 30) (bl_ 38 63) HT_ (fun K hK => ?_)
       refine gO_ Try.func18 #[.slice Ao28 t592.length co28] (by rfl) rfl rfl qa_ ?_
       with_reducible refine (Z54.calls k _ _ t592 t598 _ (cr_ HO594) ((Kd.R_reads' HO594.out).2.1) A19.out).mono ?_
       rintro e w' ⟨rfl, ⟨nd, rfl⟩⟩
       refine ⟨_, rfl, ?_⟩
       refine hK.out _ _ ⟨cz0_ BK591, cz1_ BK591⟩ (fun hHeld => ?_)
       clear hK K
       refine no_ (some 30) ?_
       refine on_ 6 (some 32) (bl_ 38 127) HT_ (fun K hK => ?_)
       refine gO_ Try.func19 #[.agg #[.slice Ao10 t585.length co10, .slice Ao12 t588.length co12]] (by rfl) rfl rfl qa_ ?_
       with_reducible refine (Z43.calls k _ _ t585 _ _ t588 t599 _ (cr_ HO587) ((Kd.R_reads' HO587.out).2.1) (cr_ HO590) ((Kd.R_reads' HO590.out).2.1) A20.out).mono ?_
       rintro e w29 ⟨rfl, hb⟩
       refine ⟨_, rfl, ?_⟩
       replace HO587 := rb_ HO587 hb
       replace HO590 := rb_ HO590 hb
       replace HO594 := rb_ HO594 hb
       replace BK591 := bb_ BK591 hb
       replace HB := b1_ hb
       clear hb
       refine hK.out _ _ ⟨cz0_ BK591, cz1_ BK591⟩ (fun hHeld => ?_)
       clear hK K
       refine no_ (some 32) ?_
       refine pu_ 7 (some 33) (bl_ 38 255) HT_ ?_
       refine pu_ 8 (some 34) (bl_ 38 511) HT_ ?_
       refine pu_ 9 (some 35) (bl_ 38 1023) HT_ ?_
       refine pu_ 10 (some 36) (bl_ 38 2047) HT_ ?_
       refine pu_ 11 (some 37) (bl_ 38 4095) HT_ ?_
       refine pu_ 12 (some 38) (bl_ 38 8191) HT_ ?_
       refine pu_ 13 (some 39) (bl_ 38 16383) HT_ ?_
       refine pu_ 14 (some 40) (bl_ 38 32767) HT_ ?_
       refine pu_ 15 (some 41) (bl_ 38 65535) HT_ ?_
       refine pu_ 16 (some 42) (bl_ 38 131071) HT_ ?_
       refine pu_ 17 (some 43) (bl_ 38 262143) HT_ ?_
       refine pu_ 18 (some 44) (bl_ 38 524287) HT_ ?_
       refine pure_ (i := 19) (N := some 45) (v := undef) (a' := ?_) (bl_ 38 1048575) rfl rfl (any_of HT_.out (by kernel_rfl)) (fun _ _ _ h => h) (Or.inr ⟨by rfl, rfl⟩) ?_ ?_
       rotate_left
       ·simp only [Act.put, sA_, sB_, sC_, i64_w, i32_w]
        rfl
       refine pure_ (i := 20) (N := some 46) (v := undef) (a' := ?_) (bl_ 38 2097151) rfl rfl (any_of HT_.out (by kernel_rfl)) (fun _ _ _ h => h) (Or.inr ⟨by rfl, rfl⟩) ?_ ?_
       rotate_left
       ·simp only [Act.put, sA_, sB_, sC_, i64_w, i32_w]
        rfl
       refine pu_ 21 (some 47) (bl_ 38 4194303) HT_ ?_
       refine pu_ 22 (some 48) (bl_ 38 8388607) HT_ ?_
       refine pure_ (i := 23) (N := some 49) (v := undef) (a' := ?_) (bl_ 38 16777215) rfl rfl (any_of HT_.out (by kernel_rfl)) (fun _ _ _ h => h) (Or.inr ⟨by rfl, rfl⟩) ?_ ?_
       rotate_left
       ·simp only [Act.put, sA_, sB_, sC_, i64_w, i32_w]
        rfl
       refine pure_ (i := 24) (N := some 50) (v := undef) (a' := ?_) (bl_ 38 33554431) rfl rfl (any_of HT_.out (by kernel_rfl)) (fun _ _ _ h => h) (Or.inr ⟨by rfl, rfl⟩) ?_ ?_
       rotate_left
       ·simp only [Act.put, sA_, sB_, sC_, i64_w, i32_w]
        rfl
       refine pu_ 25 (some 51) (bl_ 38 67108863) HT_ ?_
       refine pu_ 26 (some 52) (bl_ 38 134217727) HT_ ?_
       refine pure_ (i := 27) (N := some 53) (v := undef) (a' := ?_) (bl_ 38 268435455) rfl rfl (any_of HT_.out (by kernel_rfl)) (fun _ _ _ h => h) (Or.inr ⟨by rfl, rfl⟩) ?_ ?_
       rotate_left
       ·simp only [Act.put, sA_, sB_, sC_, i64_w, i32_w]
        rfl
       refine pure_ (i := 28) (N := some 54) (v := undef) (a' := ?_) (bl_ 38 536870911) rfl rfl (any_of HT_.out (by kernel_rfl)) (fun _ _ _ h => h) (Or.inr ⟨by rfl, rfl⟩) ?_ ?_
       rotate_left
       ·simp only [Act.put, sA_, sB_, sC_, i64_w, i32_w]
        rfl
       refine pure_ (i := 29) (N := some 55) (v := undef) (a' := ?_) (bl_ 38 1073741823) rfl rfl (any_of HT_.out (by kernel_rfl)) (fun _ _ _ h => h) (Or.inr ⟨by rfl, rfl⟩) ?_ ?_
       rotate_left
       ·simp only [Act.put, sA_, sB_, sC_, i64_w, i32_w]
        rfl
       refine pure_ (i := 30) (N := some 56) (v := undef) (a' := ?_) (bl_ 38 2147483647) rfl rfl (any_of HT_.out (by kernel_rfl)) (fun _ _ _ h => h) (Or.inr ⟨by rfl, rfl⟩) ?_ ?_
       rotate_left
       ·simp only [Act.put, sA_, sB_, sC_, i64_w, i32_w]
        rfl
       refine pu_ 31 (some 57) (bl_ 38 4294967295) HT_ ?_
       refine pu_ 32 (some 58) (bl_ 38 8589934591) HT_ ?_
       refine pure_ (i := 33) (N := some 59) (v := undef) (a' := ?_) (bl_ 38 17179869183) rfl rfl (any_of HT_.out (by kernel_rfl)) (fun _ _ _ h => h) (Or.inr ⟨by rfl, rfl⟩) ?_ ?_
       rotate_left
       ·simp only [Act.put, sA_, sB_, sC_, i64_w, i32_w]
        rfl
       refine pure_ (i := 34) (N := some 60) (v := undef) (a' := ?_) (bl_ 38 34359738367) rfl rfl (any_of HT_.out (by kernel_rfl)) (fun _ _ _ h => h) (Or.inr ⟨by rfl, rfl⟩) ?_ ?_
       rotate_left
       ·simp only [Act.put, sA_, sB_, sC_, i64_w, i32_w]
        rfl
       refine pure_ (i := 35) (N := some 61) (v := undef) (a' := ?_) (bl_ 38 68719476735) rfl rfl (any_of HT_.out (by kernel_rfl)) (fun _ _ _ h => h) (Or.inr ⟨by rfl, rfl⟩) ?_ ?_
       rotate_left
       ·simp only [Act.put, sA_, sB_, sC_, i64_w, i32_w]
        rfl
       refine pure_ (i := 36) (N := some 62) (v := undef) (a' := ?_) (bl_ 38 137438953471) rfl rfl (any_of HT_.out (by kernel_rfl)) (fun _ _ _ h => h) (Or.inr ⟨by rfl, rfl⟩) ?_ ?_
       rotate_left
       ·simp only [Act.put, sA_, sB_, sC_, i64_w, i32_w]
        rfl
       refine pu_ 37 (some 63) (bl_ 38 274877906943) HT_ ?_
       refine done_ (done_of HT_.out (by kernel_rfl)) ?_
       try go_wp2
       go_meet
       case rel => exact ⟨_, (true), qc_, H', ⟨qd_⟩, ⟨(rw_ (Kd.R_mono HO587.out (fun _ hk => hk.1)))⟩, ⟨(rw_ (Kd.R_mono HO590.out (fun _ hk => hk.1)))⟩, ⟨(kk_ BK591)⟩, ⟨hB_⟩⟩
      ·rw [if_neg c26] at H
       have c26b0 := oD_ c26
       clear c26
       by_cases c30 : t596 > 120
       ·rw [if_pos c30] at H
        have c30b0 : decide (120 < t596) = true := oC_ c30
        clear c30
        have H' := A_ H
        clear H
        try go_wp2
        replace HO587 := A_ (rC_ HO587.out)
        replace HO590 := A_ (rC_ HO590.out)
        replace HO594 := A_ (rC_ HO594.out)
        replace BK591 := A_ (kB_ BK591.out)
        replace HB := A_ (bC_ HB.out)
        obtain ⟨Ao32, co32, eo32⟩ := Kd.R_slice HO594.out
        (first | subst eo32 | (injection eo32 with f1_ f2_ f3_; have f4_ := f1_.symm; have f5_ := f3_.symm; clear f1_ f2_ f3_; subst f4_; subst f5_))
        refine start_ (n := 38) (S := fun w' => w'.cell? ⟨gb591, 0, none⟩ = some (.slice Ao10 t585.length co10) ∧ w'.cell? ⟨gb591, 1, none⟩ = some (.slice Ao12 t588.length co12)) (ds := []) (bl_ 38 0) (by kernel_rfl) rfl (by kernel_rfl) ⟨cz0_ BK591, cz1_ BK591⟩ (fun hHeld => ?_); refine with_tabW Z44.tab7 Z44.bits7 (fun HT_ HW_ => ?_)
        generalize w17.drew = w31 at HO587 HO590 HO594 BK591 HB hHeld ⊢
        refine pu_ 0 (some 26) (bl_ 38 1) HT_ ?_
        refine pu_ 1 (some 27) (bl_ 38 3) HT_ ?_
        refine pu_ 2 (some 28) (bl_ 38 7) HT_ ?_
        refine pu_ 3 (some 29) (bl_ 38 15) HT_ ?_
        refine ta_ 5 (some 31) (bl_ 38 47) HT_ HW_ hHeld ?_
        refine on_ 4 (some 30) (bl_ 38 63) HT_ (fun K hK => ?_)
        refine gO_ Try.func18 #[.slice Ao32 t592.length co32] (by rfl) rfl rfl qa_ ?_
        with_reducible refine (Z54.calls k _ _ t592 t598 _ (cr_ HO594) ((Kd.R_reads' HO594.out).2.1) A19.out).mono ?_
        rintro e w' ⟨rfl, ⟨nd, rfl⟩⟩
        refine ⟨_, rfl, ?_⟩
        refine hK.out _ _ ⟨cz0_ BK591, cz1_ BK591⟩ (fun hHeld => ?_)
        clear hK K
        refine no_ (some 30) ?_
        refine on_ 6 (some 32) (bl_ 38 127) HT_ (fun K hK => ?_)
        refine gO_ Try.func19 #[.agg #[.slice Ao10 t585.length co10, .slice Ao12 t588.length co12]] (by rfl) rfl rfl qa_ ?_
        with_reducible refine (Z43.calls k _ _ t585 _ _ t588 t599 _ (cr_ HO587) ((Kd.R_reads' HO587.out).2.1) (cr_ HO590) ((Kd.R_reads' HO590.out).2.1) A20.out).mono ?_
        rintro e w33 ⟨rfl, hb⟩
        refine ⟨_, rfl, ?_⟩
        replace HO587 := rb_ HO587 hb
        replace HO590 := rb_ HO590 hb
        replace HO594 := rb_ HO594 hb
        replace BK591 := bb_ BK591 hb
        replace HB := b1_ hb
        clear hb
        refine hK.out _ _ ⟨cz0_ BK591, cz1_ BK591⟩ (fun hHeld => ?_)
        clear hK K
        refine no_ (some 32) ?_
        refine pu_ 7 (some 33) (bl_ 38 255) HT_ ?_
        refine pu_ 8 (some 34) (bl_ 38 511) HT_ ?_
        refine pu_ 9 (some 35) (bl_ 38 1023) HT_ ?_
        refine pu_ 10 (some 36) (bl_ 38 2047) HT_ ?_
        refine pu_ 11 (some 37) (bl_ 38 4095) HT_ ?_
        refine pu_ 12 (some 38) (bl_ 38 8191) HT_ ?_
        refine pu_ 13 (some 39) (bl_ 38 16383) HT_ ?_
        refine pu_ 14 (some 40) (bl_ 38 32767) HT_ ?_
        refine pu_ 15 (some 41) (bl_ 38 65535) HT_ ?_
        refine pu_ 16 (some 42) (bl_ 38 131071) HT_ ?_
        refine pu_ 17 (some 43) (bl_ 38 262143) HT_ ?_
        refine pu_ 18 (some 44) (bl_ 38 524287) HT_ ?_
        refine pu_ 19 (some 45) (bl_ 38 1048575) HT_ ?_
        refine pu_ 20 (some 46) (bl_ 38 2097151) HT_ ?_
        refine pu_ 21 (some 47) (bl_ 38 4194303) HT_ ?_
        refine pu_ 22 (some 48) (bl_ 38 8388607) HT_ ?_
        refine pure_ (i := 23) (N := some 49) (v := undef) (a' := ?_) (bl_ 38 16777215) rfl rfl (any_of HT_.out (by kernel_rfl)) (fun _ _ _ h => h) (Or.inr ⟨by rfl, rfl⟩) ?_ ?_
        rotate_left
        ·simp only [Act.put, sA_, sB_, sC_, i64_w, i32_w]
         rfl
        refine pure_ (i := 24) (N := some 50) (v := undef) (a' := ?_) (bl_ 38 33554431) rfl rfl (any_of HT_.out (by kernel_rfl)) (fun _ _ _ h => h) (Or.inr ⟨by rfl, rfl⟩) ?_ ?_
        rotate_left
        ·simp only [Act.put, sA_, sB_, sC_, i64_w, i32_w]
         rfl
        refine pu_ 25 (some 51) (bl_ 38 67108863) HT_ ?_
        refine pu_ 26 (some 52) (bl_ 38 134217727) HT_ ?_
        refine pure_ (i := 27) (N := some 53) (v := undef) (a' := ?_) (bl_ 38 268435455) rfl rfl (any_of HT_.out (by kernel_rfl)) (fun _ _ _ h => h) (Or.inr ⟨by rfl, rfl⟩) ?_ ?_
        rotate_left
        ·simp only [Act.put, sA_, sB_, sC_, i64_w, i32_w]
         rfl
        refine pure_ (i := 28) (N := some 54) (v := undef) (a' := ?_) (bl_ 38 536870911) rfl rfl (any_of HT_.out (by kernel_rfl)) (fun _ _ _ h => h) (Or.inr ⟨by rfl, rfl⟩) ?_ ?_
        rotate_left
        ·simp only [Act.put, sA_, sB_, sC_, i64_w, i32_w]
         rfl
        refine pure_ (i := 29) (N := some 55) (v := undef) (a' := ?_) (bl_ 38 1073741823) rfl rfl (any_of HT_.out (by kernel_rfl)) (fun _ _ _ h => h) (Or.inr ⟨by rfl, rfl⟩) ?_ ?_
        rotate_left
        ·simp only [Act.put, sA_, sB_, sC_, i64_w, i32_w]
         rfl
        refine pure_ (i := 30) (N := some 56) (v := undef) (a' := ?_) (bl_ 38 2147483647) rfl rfl (any_of HT_.out (by kernel_rfl)) (fun _ _ _ h => h) (Or.inr ⟨by rfl, rfl⟩) ?_ ?_
        rotate_left
        ·simp only [Act.put, sA_, sB_, sC_, i64_w, i32_w]
         rfl
        refine pu_ 31 (some 57) (bl_ 38 4294967295) HT_ ?_
        refine pu_ 32 (some 58) (bl_ 38 8589934591) HT_ ?_
        refine pure_ (i := 33) (N := some 59) (v := undef) (a' := ?_) (bl_ 38 17179869183) rfl rfl (any_of HT_.out (by kernel_rfl)) (fun _ _ _ h => h) (Or.inr ⟨by rfl, rfl⟩) ?_ ?_
        rotate_left
        ·simp only [Act.put, sA_, sB_, sC_, i64_w, i32_w]
         rfl
        refine pure_ (i := 34) (N := some 60) (v := undef) (a' := ?_) (bl_ 38 34359738367) rfl rfl (any_of HT_.out (by kernel_rfl)) (fun _ _ _ h => h) (Or.inr ⟨by rfl, rfl⟩) ?_ ?_
        rotate_left
        ·simp only [Act.put, sA_, sB_, sC_, i64_w, i32_w]
         rfl
        refine pure_ (i := 35) (N := some 61) (v := undef) (a' := ?_) (bl_ 38 68719476735) rfl rfl (any_of HT_.out (by kernel_rfl)) (fun _ _ _ h => h) (Or.inr ⟨by rfl, rfl⟩) ?_ ?_
        rotate_left
        ·simp only [Act.put, sA_, sB_, sC_, i64_w, i32_w]
         rfl
        refine pure_ (i := 36) (N := some 62) (v := undef) (a' := ?_) (bl_ 38 137438953471) rfl rfl (any_of HT_.out (by kernel_rfl)) (fun _ _ _ h => h) (Or.inr ⟨by rfl, rfl⟩) ?_ ?_
        rotate_left
        ·simp only [Act.put, sA_, sB_, sC_, i64_w, i32_w]
         rfl
        refine pu_ 37 (some 63) (bl_ 38 274877906943) HT_ ?_
        refine done_ (done_of HT_.out (by kernel_rfl)) ?_
        try go_wp2
        go_meet
        case rel => exact ⟨_, (true), qc_, H', ⟨qd_⟩, ⟨(rw_ (Kd.R_mono HO587.out (fun _ hk => hk.1)))⟩, ⟨(rw_ (Kd.R_mono HO590.out (fun _ hk => hk.1)))⟩, ⟨(kk_ BK591)⟩, ⟨hB_⟩⟩
       ·rw [if_neg c30] at H
        have c30b0 : decide (120 < t596) = false := oD_ c30
        clear c30
        by_cases c34 : t597 < 1
        ·rw [if_pos c34] at H
         have c34b0 := oC_ c34
         clear c34
         have H' := A_ H
         clear H
         try go_wp2
         replace HO587 := A_ (rC_ HO587.out)
         replace HO590 := A_ (rC_ HO590.out)
         replace HO594 := A_ (rC_ HO594.out)
         replace BK591 := A_ (kB_ BK591.out)
         replace HB := A_ (bC_ HB.out)
         obtain ⟨Ao36, co36, eo36⟩ := Kd.R_slice HO594.out
         (first | subst eo36 | (injection eo36 with f1_ f2_ f3_; have f4_ := f1_.symm; have f5_ := f3_.symm; clear f1_ f2_ f3_; subst f4_; subst f5_))
         refine start_ (n := 38) (S := fun w' => w'.cell? ⟨gb591, 0, none⟩ = some (.slice Ao10 t585.length co10) ∧ w'.cell? ⟨gb591, 1, none⟩ = some (.slice Ao12 t588.length co12)) (ds := []) (bl_ 38 0) (by kernel_rfl) rfl (by kernel_rfl) ⟨cz0_ BK591, cz1_ BK591⟩ (fun hHeld => ?_); refine with_tabW Z44.tab7 Z44.bits7 (fun HT_ HW_ => ?_)
         generalize w17.drew = w35 at HO587 HO590 HO594 BK591 HB hHeld ⊢
         refine pu_ 0 (some 26) (bl_ 38 1) HT_ ?_
         refine pu_ 1 (some 27) (bl_ 38 3) HT_ ?_
         refine pu_ 2 (some 28) (bl_ 38 7) HT_ ?_
         refine pu_ 3 (some 29) (bl_ 38 15) HT_ ?_
         refine ta_ 5 (some 31) (bl_ 38 47) HT_ HW_ hHeld ?_
         refine on_ 4 (some 30) (bl_ 38 63) HT_ (fun K hK => ?_)
         refine gO_ Try.func18 #[.slice Ao36 t592.length co36] (by rfl) rfl rfl qa_ ?_
         with_reducible refine (Z54.calls k _ _ t592 t598 _ (cr_ HO594) ((Kd.R_reads' HO594.out).2.1) A19.out).mono ?_
         rintro e w' ⟨rfl, ⟨nd, rfl⟩⟩
         refine ⟨_, rfl, ?_⟩
         refine hK.out _ _ ⟨cz0_ BK591, cz1_ BK591⟩ (fun hHeld => ?_)
         clear hK K
         refine no_ (some 30) ?_
         refine on_ 6 (some 32) (bl_ 38 127) HT_ (fun K hK => ?_)
         refine gO_ Try.func19 #[.agg #[.slice Ao10 t585.length co10, .slice Ao12 t588.length co12]] (by rfl) rfl rfl qa_ ?_
         with_reducible refine (Z43.calls k _ _ t585 _ _ t588 t599 _ (cr_ HO587) ((Kd.R_reads' HO587.out).2.1) (cr_ HO590) ((Kd.R_reads' HO590.out).2.1) A20.out).mono ?_
         rintro e w37 ⟨rfl, hb⟩
         refine ⟨_, rfl, ?_⟩
         replace HO587 := rb_ HO587 hb
         replace HO590 := rb_ HO590 hb
         replace HO594 := rb_ HO594 hb
         replace BK591 := bb_ BK591 hb
         replace HB := b1_ hb
         clear hb
         refine hK.out _ _ ⟨cz0_ BK591, cz1_ BK591⟩ (fun hHeld => ?_)
         clear hK K
         refine no_ (some 32) ?_
         refine pu_ 7 (some 33) (bl_ 38 255) HT_ ?_
         refine pu_ 8 (some 34) (bl_ 38 511) HT_ ?_
         refine pu_ 9 (some 35) (bl_ 38 1023) HT_ ?_
         refine pu_ 10 (some 36) (bl_ 38 2047) HT_ ?_
         refine pu_ 11 (some 37) (bl_ 38 4095) HT_ ?_
         refine pu_ 12 (some 38) (bl_ 38 8191) HT_ ?_
         refine pu_ 13 (some 39) (bl_ 38 16383) HT_ ?_
         refine pu_ 14 (some 40) (bl_ 38 32767) HT_ ?_
         refine pu_ 15 (some 41) (bl_ 38 65535) HT_ ?_
         refine pu_ 16 (some 42) (bl_ 38 131071) HT_ ?_
         refine pu_ 17 (some 43) (bl_ 38 262143) HT_ ?_
         refine pu_ 18 (some 44) (bl_ 38 524287) HT_ ?_
         refine pu_ 19 (some 45) (bl_ 38 1048575) HT_ ?_
         refine pu_ 20 (some 46) (bl_ 38 2097151) HT_ ?_
         refine pu_ 21 (some 47) (bl_ 38 4194303) HT_ ?_
         refine pu_ 22 (some 48) (bl_ 38 8388607) HT_ ?_
         refine pu_ 23 (some 49) (bl_ 38 16777215) HT_ ?_
         refine pu_ 24 (some 50) (bl_ 38 33554431) HT_ ?_
         refine pu_ 25 (some 51) (bl_ 38 67108863) HT_ ?_
         refine pu_ 26 (some 52) (bl_ 38 134217727) HT_ ?_
         refine pure_ (i := 27) (N := some 53) (v := undef) (a' := ?_) (bl_ 38 268435455) rfl rfl (any_of HT_.out (by kernel_rfl)) (fun _ _ _ h => h) (Or.inr ⟨by rfl, rfl⟩) ?_ ?_
         rotate_left
         ·simp only [Act.put, sA_, sB_, sC_, i64_w, i32_w]
          rfl
         refine pure_ (i := 28) (N := some 54) (v := undef) (a' := ?_) (bl_ 38 536870911) rfl rfl (any_of HT_.out (by kernel_rfl)) (fun _ _ _ h => h) (Or.inr ⟨by rfl, rfl⟩) ?_ ?_
         rotate_left
         ·simp only [Act.put, sA_, sB_, sC_, i64_w, i32_w]
          rfl
         refine pure_ (i := 29) (N := some 55) (v := undef) (a' := ?_) (bl_ 38 1073741823) rfl rfl (any_of HT_.out (by kernel_rfl)) (fun _ _ _ h => h) (Or.inr ⟨by rfl, rfl⟩) ?_ ?_
         rotate_left
         ·simp only [Act.put, sA_, sB_, sC_, i64_w, i32_w]
          rfl
         refine pure_ (i := 30) (N := some 56) (v := undef) (a' := ?_) (bl_ 38 2147483647) rfl rfl (any_of HT_.out (by kernel_rfl)) (fun _ _ _ h => h) (Or.inr ⟨by rfl, rfl⟩) ?_ ?_
         rotate_left
         ·simp only [Act.put, sA_, sB_, sC_, i64_w, i32_w]
          rfl
         refine pu_ 31 (some 57) (bl_ 38 4294967295) HT_ ?_
         refine pu_ 32 (some 58) (bl_ 38 8589934591) HT_ ?_
         refine pure_ (i := 33) (N := some 59) (v := undef) (a' := ?_) (bl_ 38 17179869183) rfl rfl (any_of HT_.out (by kernel_rfl)) (fun _ _ _ h => h) (Or.inr ⟨by rfl, rfl⟩) ?_ ?_
         rotate_left
         ·simp only [Act.put, sA_, sB_, sC_, i64_w, i32_w]
          rfl
         refine pure_ (i := 34) (N := some 60) (v := undef) (a' := ?_) (bl_ 38 34359738367) rfl rfl (any_of HT_.out (by kernel_rfl)) (fun _ _ _ h => h) (Or.inr ⟨by rfl, rfl⟩) ?_ ?_
         rotate_left
         ·simp only [Act.put, sA_, sB_, sC_, i64_w, i32_w]
          rfl
         refine pure_ (i := 35) (N := some 61) (v := undef) (a' := ?_) (bl_ 38 68719476735) rfl rfl (any_of HT_.out (by kernel_rfl)) (fun _ _ _ h => h) (Or.inr ⟨by rfl, rfl⟩) ?_ ?_
         rotate_left
         ·simp only [Act.put, sA_, sB_, sC_, i64_w, i32_w]
          rfl
         refine pure_ (i := 36) (N := some 62) (v := undef) (a' := ?_) (bl_ 38 137438953471) rfl rfl (any_of HT_.out (by kernel_rfl)) (fun _ _ _ h => h) (Or.inr ⟨by rfl, rfl⟩) ?_ ?_
         rotate_left
         ·simp only [Act.put, sA_, sB_, sC_, i64_w, i32_w]
          rfl
         refine pu_ 37 (some 63) (bl_ 38 274877906943) HT_ ?_
         refine done_ (done_of HT_.out (by kernel_rfl)) ?_
         try go_wp2
         go_meet
         case rel => exact ⟨_, (true), qc_, H', ⟨qd_⟩, ⟨(rw_ (Kd.R_mono HO587.out (fun _ hk => hk.1)))⟩, ⟨(rw_ (Kd.R_mono HO590.out (fun _ hk => hk.1)))⟩, ⟨(kk_ BK591)⟩, ⟨hB_⟩⟩
        ·rw [if_neg c34] at H
         have c34b0 := oD_ c34
         clear c34
         by_cases c38 : t596 = 0
         ·rw [if_pos c38] at H
          exact absurd H (by simp)
         ·rw [if_neg c38] at H
          have c38b0 : (t596 == 0) = false := beq_eq_false_iff_ne.mpr c38
          have c38b1 : (t596 != 0) = true := bne_iff_ne.mpr c38
          by_cases c39 : (Int.tmod t597 t596) = 0
          ·rw [if_pos c39] at H
           have c39b0 : ((Int.tmod t597 t596) == 0) = true := beq_iff_eq.mpr c39
           have c39b1 : ((Int.tmod t597 t596) != 0) = false := bne_eq_false_iff_eq.mpr c39
           clear c39
           obtain ⟨t600, A40, H⟩ := bi_ H
           have H' := A_ H
           clear H
           try go_wp2
           replace HO587 := A_ (rC_ HO587.out)
           replace HO590 := A_ (rC_ HO590.out)
           replace HO594 := A_ (rC_ HO594.out)
           replace BK591 := A_ (kB_ BK591.out)
           replace HB := A_ (bC_ HB.out)
           obtain ⟨Ao42, co42, eo42⟩ := Kd.R_slice HO594.out
           (first | subst eo42 | (injection eo42 with f1_ f2_ f3_; have f4_ := f1_.symm; have f5_ := f3_.symm; clear f1_ f2_ f3_; subst f4_; subst f5_))
           refine start_ (n := 38) (S := fun w' => w'.cell? ⟨gb591, 0, none⟩ = some (.slice Ao10 t585.length co10) ∧ w'.cell? ⟨gb591, 1, none⟩ = some (.slice Ao12 t588.length co12)) (ds := []) (bl_ 38 0) (by kernel_rfl) rfl (by kernel_rfl) ⟨cz0_ BK591, cz1_ BK591⟩ (fun hHeld => ?_); refine with_tabW Z44.tab7 Z44.bits7 (fun HT_ HW_ => ?_)
           generalize w17.drew = w41 at HO587 HO590 HO594 BK591 HB hHeld ⊢
           refine pu_ 0 (some 26) (bl_ 38 1) HT_ ?_
           refine pu_ 1 (some 27) (bl_ 38 3) HT_ ?_
           refine pu_ 2 (some 28) (bl_ 38 7) HT_ ?_
           refine pu_ 3 (some 29) (bl_ 38 15) HT_ ?_
           refine ta_ 5 (some 31) (bl_ 38 47) HT_ HW_ hHeld ?_
           refine on_ 4 (some 30) (bl_ 38 63) HT_ (fun K hK => ?_)
           refine gO_ Try.func18 #[.slice Ao42 t592.length co42] (by rfl) rfl rfl qa_ ?_
           with_reducible refine (Z54.calls k _ _ t592 t598 _ (cr_ HO594) ((Kd.R_reads' HO594.out).2.1) A19.out).mono ?_
           rintro e w' ⟨rfl, ⟨nd, rfl⟩⟩
           refine ⟨_, rfl, ?_⟩
           refine hK.out _ _ ⟨cz0_ BK591, cz1_ BK591⟩ (fun hHeld => ?_)
           clear hK K
           refine no_ (some 30) ?_
           refine on_ 6 (some 32) (bl_ 38 127) HT_ (fun K hK => ?_)
           refine gO_ Try.func19 #[.agg #[.slice Ao10 t585.length co10, .slice Ao12 t588.length co12]] (by rfl) rfl rfl qa_ ?_
           with_reducible refine (Z43.calls k _ _ t585 _ _ t588 t599 _ (cr_ HO587) ((Kd.R_reads' HO587.out).2.1) (cr_ HO590) ((Kd.R_reads' HO590.out).2.1) A20.out).mono ?_
           rintro e w43 ⟨rfl, hb⟩
           refine ⟨_, rfl, ?_⟩
           replace HO587 := rb_ HO587 hb
           replace HO590 := rb_ HO590 hb
           replace HO594 := rb_ HO594 hb
           replace BK591 := bb_ BK591 hb
           replace HB := b1_ hb
           clear hb
           refine hK.out _ _ ⟨cz0_ BK591, cz1_ BK591⟩ (fun hHeld => ?_)
           clear hK K
           refine no_ (some 32) ?_
           refine pu_ 7 (some 33) (bl_ 38 255) HT_ ?_
           refine pu_ 8 (some 34) (bl_ 38 511) HT_ ?_
           refine pu_ 9 (some 35) (bl_ 38 1023) HT_ ?_
           refine pu_ 10 (some 36) (bl_ 38 2047) HT_ ?_
           refine pu_ 11 (some 37) (bl_ 38 4095) HT_ ?_
           refine pu_ 12 (some 38) (bl_ 38 8191) HT_ ?_
           refine pu_ 13 (some 39) (bl_ 38 16383) HT_ ?_
           refine pu_ 14 (some 40) (bl_ 38 32767) HT_ ?_
           refine pu_ 15 (some 41) (bl_ 38 65535) HT_ ?_
           refine pu_ 16 (some 42) (bl_ 38 131071) HT_ ?_
           refine pu_ 17 (some 43) (bl_ 38 262143) HT_ ?_
           refine pu_ 18 (some 44) (bl_ 38 524287) HT_ ?_
           refine pu_ 19 (some 45) (bl_ 38 1048575) HT_ ?_
           refine pu_ 20 (some 46) (bl_ 38 2097151) HT_ ?_
           refine pu_ 21 (some 47) (bl_ 38 4194303) HT_ ?_
           refine pu_ 22 (some 48) (bl_ 38 8388607) HT_ ?_
           refine pu_ 23 (some 49) (bl_ 38 16777215) HT_ ?_
           refine pu_ 24 (some 50) (bl_ 38 33554431) HT_ ?_
           refine pu_ 25 (some 51) (bl_ 38 67108863) HT_ ?_
           refine pu_ 26 (some 52) (bl_ 38 134217727) HT_ ?_
           refine pu_ 27 (some 53) (bl_ 38 268435455) HT_ ?_
           refine pu_ 28 (some 54) (bl_ 38 536870911) HT_ ?_
           refine pu_ 29 (some 55) (bl_ 38 1073741823) HT_ ?_
           refine pu_ 30 (some 56) (bl_ 38 2147483647) HT_ ?_
           refine pu_ 31 (some 57) (bl_ 38 4294967295) HT_ ?_
           refine pu_ 32 (some 58) (bl_ 38 8589934591) HT_ ?_
           refine pu_ 33 (some 59) (bl_ 38 17179869183) HT_ ?_
           refine pu_ 34 (some 60) (bl_ 38 34359738367) HT_ ?_
           refine on_ 35 (some 61) (bl_ 38 68719476735) HT_ (fun K hK => ?_)
           refine gO_ Try.func20 #[.slice Ao42 t592.length co42, .int .i64 t596] (by rfl) rfl rfl qa_ ?_
           with_reducible refine (Z58.calls k _ _ t592 t596 t600 _ (cr_ HO594) ((Kd.R_reads' HO594.out).2.1) A40.out).mono ?_
           rintro e w' ⟨rfl, ⟨nd, rfl⟩⟩
           refine ⟨_, rfl, ?_⟩
           refine hK.out _ _ ⟨cz0_ BK591, cz1_ BK591⟩ (fun hHeld => ?_)
           clear hK K
           refine no_ (some 61) ?_
           refine pu_ 36 (some 62) (bl_ 38 137438953471) HT_ ?_
           refine pu_ 37 (some 63) (bl_ 38 274877906943) HT_ ?_
           refine done_ (done_of HT_.out (by kernel_rfl)) ?_
           try go_wp2
           go_meet
           case rel => exact ⟨_, (!t600), qc_, H', ⟨qd_⟩, ⟨(rw_ (Kd.R_mono HO587.out (fun _ hk => hk.1)))⟩, ⟨(rw_ (Kd.R_mono HO590.out (fun _ hk => hk.1)))⟩, ⟨(kk_ BK591)⟩, ⟨hB_⟩⟩
          ·rw [if_neg c39] at H
           have c39b0 : ((Int.tmod t597 t596) == 0) = false := beq_eq_false_iff_ne.mpr c39
           have c39b1 : ((Int.tmod t597 t596) != 0) = true := bne_iff_ne.mpr c39
           have H' := A_ H
           clear H
           try go_wp2
           replace HO587 := A_ (rC_ HO587.out)
           replace HO590 := A_ (rC_ HO590.out)
           replace HO594 := A_ (rC_ HO594.out)
           replace BK591 := A_ (kB_ BK591.out)
           replace HB := A_ (bC_ HB.out)
           obtain ⟨Ao45, co45, eo45⟩ := Kd.R_slice HO594.out
           (first | subst eo45 | (injection eo45 with f1_ f2_ f3_; have f4_ := f1_.symm; have f5_ := f3_.symm; clear f1_ f2_ f3_; subst f4_; subst f5_))
           refine start_ (n := 38) (S := fun w' => w'.cell? ⟨gb591, 0, none⟩ = some (.slice Ao10 t585.length co10) ∧ w'.cell? ⟨gb591, 1, none⟩ = some (.slice Ao12 t588.length co12)) (ds := []) (bl_ 38 0) (by kernel_rfl) rfl (by kernel_rfl) ⟨cz0_ BK591, cz1_ BK591⟩ (fun hHeld => ?_); refine with_tabW Z44.tab7 Z44.bits7 (fun HT_ HW_ => ?_)
           generalize w17.drew = w44 at HO587 HO590 HO594 BK591 HB hHeld ⊢
           refine pu_ 0 (some 26) (bl_ 38 1) HT_ ?_
           refine pu_ 1 (some 27) (bl_ 38 3) HT_ ?_
           refine pu_ 2 (some 28) (bl_ 38 7) HT_ ?_
           refine pu_ 3 (some 29) (bl_ 38 15) HT_ ?_
           refine ta_ 5 (some 31) (bl_ 38 47) HT_ HW_ hHeld ?_
           refine on_ 4 (some 30) (bl_ 38 63) HT_ (fun K hK => ?_)
           refine gO_ Try.func18 #[.slice Ao45 t592.length co45] (by rfl) rfl rfl qa_ ?_
           with_reducible refine (Z54.calls k _ _ t592 t598 _ (cr_ HO594) ((Kd.R_reads' HO594.out).2.1) A19.out).mono ?_
           rintro e w' ⟨rfl, ⟨nd, rfl⟩⟩
           refine ⟨_, rfl, ?_⟩
           refine hK.out _ _ ⟨cz0_ BK591, cz1_ BK591⟩ (fun hHeld => ?_)
           clear hK K
           refine no_ (some 30) ?_
           refine on_ 6 (some 32) (bl_ 38 127) HT_ (fun K hK => ?_)
           refine gO_ Try.func19 #[.agg #[.slice Ao10 t585.length co10, .slice Ao12 t588.length co12]] (by rfl) rfl rfl qa_ ?_
           with_reducible refine (Z43.calls k _ _ t585 _ _ t588 t599 _ (cr_ HO587) ((Kd.R_reads' HO587.out).2.1) (cr_ HO590) ((Kd.R_reads' HO590.out).2.1) A20.out).mono ?_
           rintro e w46 ⟨rfl, hb⟩
           refine ⟨_, rfl, ?_⟩
           replace HO587 := rb_ HO587 hb
           replace HO590 := rb_ HO590 hb
           replace HO594 := rb_ HO594 hb
           replace BK591 := bb_ BK591 hb
           replace HB := b1_ hb
           clear hb
           refine hK.out _ _ ⟨cz0_ BK591, cz1_ BK591⟩ (fun hHeld => ?_)
           clear hK K
           refine no_ (some 32) ?_
           refine pu_ 7 (some 33) (bl_ 38 255) HT_ ?_
           refine pu_ 8 (some 34) (bl_ 38 511) HT_ ?_
           refine pu_ 9 (some 35) (bl_ 38 1023) HT_ ?_
           refine pu_ 10 (some 36) (bl_ 38 2047) HT_ ?_
           refine pu_ 11 (some 37) (bl_ 38 4095) HT_ ?_
           refine pu_ 12 (some 38) (bl_ 38 8191) HT_ ?_
           refine pu_ 13 (some 39) (bl_ 38 16383) HT_ ?_
           refine pu_ 14 (some 40) (bl_ 38 32767) HT_ ?_
           refine pu_ 15 (some 41) (bl_ 38 65535) HT_ ?_
           refine pu_ 16 (some 42) (bl_ 38 131071) HT_ ?_
           refine pu_ 17 (some 43) (bl_ 38 262143) HT_ ?_
           refine pu_ 18 (some 44) (bl_ 38 524287) HT_ ?_
           refine pu_ 19 (some 45) (bl_ 38 1048575) HT_ ?_
           refine pu_ 20 (some 46) (bl_ 38 2097151) HT_ ?_
           refine pu_ 21 (some 47) (bl_ 38 4194303) HT_ ?_
           refine pu_ 22 (some 48) (bl_ 38 8388607) HT_ ?_
           refine pu_ 23 (some 49) (bl_ 38 16777215) HT_ ?_
           refine pu_ 24 (some 50) (bl_ 38 33554431) HT_ ?_
           refine pu_ 25 (some 51) (bl_ 38 67108863) HT_ ?_
           refine pu_ 26 (some 52) (bl_ 38 134217727) HT_ ?_
           refine pu_ 27 (some 53) (bl_ 38 268435455) HT_ ?_
           refine pu_ 28 (some 54) (bl_ 38 536870911) HT_ ?_
           refine pu_ 29 (some 55) (bl_ 38 1073741823) HT_ ?_
           refine pu_ 30 (some 56) (bl_ 38 2147483647) HT_ ?_
           refine pu_ 31 (some 57) (bl_ 38 4294967295) HT_ ?_
           refine pu_ 32 (some 58) (bl_ 38 8589934591) HT_ ?_
           refine pure_ (i := 33) (N := some 59) (v := undef) (a' := ?_) (bl_ 38 17179869183) rfl rfl (any_of HT_.out (by kernel_rfl)) (fun _ _ _ h => h) (Or.inr ⟨by rfl, rfl⟩) ?_ ?_
           rotate_left
           ·simp only [Act.put, sA_, sB_, sC_, i64_w, i32_w]
            rfl
           refine pure_ (i := 34) (N := some 60) (v := undef) (a' := ?_) (bl_ 38 34359738367) rfl rfl (any_of HT_.out (by kernel_rfl)) (fun _ _ _ h => h) (Or.inr ⟨by rfl, rfl⟩) ?_ ?_
           rotate_left
           ·simp only [Act.put, sA_, sB_, sC_, i64_w, i32_w]
            rfl
           refine pure_ (i := 35) (N := some 61) (v := undef) (a' := ?_) (bl_ 38 68719476735) rfl rfl (any_of HT_.out (by kernel_rfl)) (fun _ _ _ h => h) (Or.inr ⟨by rfl, rfl⟩) ?_ ?_
           rotate_left
           ·simp only [Act.put, sA_, sB_, sC_, i64_w, i32_w]
            rfl
           refine pure_ (i := 36) (N := some 62) (v := undef) (a' := ?_) (bl_ 38 137438953471) rfl rfl (any_of HT_.out (by kernel_rfl)) (fun _ _ _ h => h) (Or.inr ⟨by rfl, rfl⟩) ?_ ?_
           rotate_left
           ·simp only [Act.put, sA_, sB_, sC_, i64_w, i32_w]
            rfl
           refine pu_ 37 (some 63) (bl_ 38 274877906943) HT_ ?_
           refine done_ (done_of HT_.out (by kernel_rfl)) ?_
           try go_wp2
           go_meet
           case rel => exact ⟨_, (true), qc_, H', ⟨qd_⟩, ⟨(rw_ (Kd.R_mono HO587.out (fun _ hk => hk.1)))⟩, ⟨(rw_ (Kd.R_mono HO590.out (fun _ hk => hk.1)))⟩, ⟨(kk_ BK591)⟩, ⟨hB_⟩⟩
    ·rw [if_neg c21] at H
     have c21b0 : (t598 == t599) = false := beq_eq_false_iff_ne.mpr c21
     have c21b1 : (t598 != t599) = true := bne_iff_ne.mpr c21
     (first | rw [c21b0] | (simp only [i64_w, i32_w]; rw [c21b0]) | skip)
     have H' := A_ H
     clear H
     try go_wp2
     replace HO587 := A_ (rC_ HO587.out)
     replace HO590 := A_ (rC_ HO590.out)
     replace HO594 := A_ (rC_ HO594.out)
     replace BK591 := A_ (kB_ BK591.out)
     replace HB := A_ (bC_ HB.out)
     obtain ⟨Ao48, co48, eo48⟩ := Kd.R_slice HO594.out
     (first | subst eo48 | (injection eo48 with f1_ f2_ f3_; have f4_ := f1_.symm; have f5_ := f3_.symm; clear f1_ f2_ f3_; subst f4_; subst f5_))
     refine start_ (n := 38) (S := fun w' => w'.cell? ⟨gb591, 0, none⟩ = some (.slice Ao10 t585.length co10) ∧ w'.cell? ⟨gb591, 1, none⟩ = some (.slice Ao12 t588.length co12)) (ds := []) (bl_ 38 0) (by kernel_rfl) rfl (by kernel_rfl) ⟨cz0_ BK591, cz1_ BK591⟩ (fun hHeld => ?_); refine with_tabW Z44.tab7 Z44.bits7 (fun HT_ HW_ => ?_)
     generalize w17.drew = w47 at HO587 HO590 HO594 BK591 HB hHeld ⊢
     refine pu_ 0 (some 26) (bl_ 38 1) HT_ ?_
     refine pu_ 1 (some 27) (bl_ 38 3) HT_ ?_
     refine pu_ 2 (some 28) (bl_ 38 7) HT_ ?_
     refine pu_ 3 (some 29) (bl_ 38 15) HT_ ?_
     refine ta_ 5 (some 31) (bl_ 38 47) HT_ HW_ hHeld ?_
     refine on_ 4 (some 30) (bl_ 38 63) HT_ (fun K hK => ?_)
     refine gO_ Try.func18 #[.slice Ao48 t592.length co48] (by rfl) rfl rfl qa_ ?_
     with_reducible refine (Z54.calls k _ _ t592 t598 _ (cr_ HO594) ((Kd.R_reads' HO594.out).2.1) A19.out).mono ?_
     rintro e w' ⟨rfl, ⟨nd, rfl⟩⟩
     refine ⟨_, rfl, ?_⟩
     refine hK.out _ _ ⟨cz0_ BK591, cz1_ BK591⟩ (fun hHeld => ?_)
     clear hK K
     refine no_ (some 30) ?_
     refine on_ 6 (some 32) (bl_ 38 127) HT_ (fun K hK => ?_)
     refine gO_ Try.func19 #[.agg #[.slice Ao10 t585.length co10, .slice Ao12 t588.length co12]] (by rfl) rfl rfl qa_ ?_
     with_reducible refine (Z43.calls k _ _ t585 _ _ t588 t599 _ (cr_ HO587) ((Kd.R_reads' HO587.out).2.1) (cr_ HO590) ((Kd.R_reads' HO590.out).2.1) A20.out).mono ?_
     rintro e w49 ⟨rfl, hb⟩
     refine ⟨_, rfl, ?_⟩
     replace HO587 := rb_ HO587 hb
     replace HO590 := rb_ HO590 hb
     replace HO594 := rb_ HO594 hb
     replace BK591 := bb_ BK591 hb
     replace HB := b1_ hb
     clear hb
     refine hK.out _ _ ⟨cz0_ BK591, cz1_ BK591⟩ (fun hHeld => ?_)
     clear hK K
     refine no_ (some 32) ?_
     refine pu_ 7 (some 33) (bl_ 38 255) HT_ ?_
     refine pu_ 8 (some 34) (bl_ 38 511) HT_ ?_
     refine pu_ 9 (some 35) (bl_ 38 1023) HT_ ?_
     refine pure_ (i := 10) (N := some 36) (v := undef) (a' := ?_) (bl_ 38 2047) rfl rfl (any_of HT_.out (by kernel_rfl)) (fun _ _ _ h => h) (Or.inr ⟨by rfl, rfl⟩) ?_ ?_
     rotate_left
     ·simp only [Act.put, sA_, sB_, sC_, i64_w, i32_w]
      rfl
     refine pure_ (i := 11) (N := some 37) (v := undef) (a' := ?_) (bl_ 38 4095) rfl rfl (any_of HT_.out (by kernel_rfl)) (fun _ _ _ h => h) (Or.inr ⟨by rfl, rfl⟩) ?_ ?_
     rotate_left
     ·simp only [Act.put, sA_, sB_, sC_, i64_w, i32_w]
      rfl
     refine pure_ (i := 12) (N := some 38) (v := undef) (a' := ?_) (bl_ 38 8191) rfl rfl (any_of HT_.out (by kernel_rfl)) (fun _ _ _ h => h) (Or.inr ⟨by rfl, rfl⟩) ?_ ?_
     rotate_left
     ·simp only [Act.put, sA_, sB_, sC_, i64_w, i32_w]
      rfl
     refine pu_ 13 (some 39) (bl_ 38 16383) HT_ ?_
     refine pu_ 14 (some 40) (bl_ 38 32767) HT_ ?_
     refine pure_ (i := 15) (N := some 41) (v := undef) (a' := ?_) (bl_ 38 65535) rfl rfl (any_of HT_.out (by kernel_rfl)) (fun _ _ _ h => h) (Or.inr ⟨by rfl, rfl⟩) ?_ ?_
     rotate_left
     ·simp only [Act.put, sA_, sB_, sC_, i64_w, i32_w]
      rfl
     refine pure_ (i := 16) (N := some 42) (v := undef) (a' := ?_) (bl_ 38 131071) rfl rfl (any_of HT_.out (by kernel_rfl)) (fun _ _ _ h => h) (Or.inr ⟨by rfl, rfl⟩) ?_ ?_
     rotate_left
     ·simp only [Act.put, sA_, sB_, sC_, i64_w, i32_w]
      rfl
     refine pu_ 17 (some 43) (bl_ 38 262143) HT_ ?_
     refine pu_ 18 (some 44) (bl_ 38 524287) HT_ ?_
     refine pure_ (i := 19) (N := some 45) (v := undef) (a' := ?_) (bl_ 38 1048575) rfl rfl (any_of HT_.out (by kernel_rfl)) (fun _ _ _ h => h) (Or.inr ⟨by rfl, rfl⟩) ?_ ?_
     rotate_left
     ·simp only [Act.put, sA_, sB_, sC_, i64_w, i32_w]
      rfl
     refine pure_ (i := 20) (N := some 46) (v := undef) (a' := ?_) (bl_ 38 2097151) rfl rfl (any_of HT_.out (by kernel_rfl)) (fun _ _ _ h => h) (Or.inr ⟨by rfl, rfl⟩) ?_ ?_
     rotate_left
     ·simp only [Act.put, sA_, sB_, sC_, i64_w, i32_w]
      rfl
     refine pu_ 21 (some 47) (bl_ 38 4194303) HT_ ?_
     refine pu_ 22 (some 48) (bl_ 38 8388607) HT_ ?_
     refine pure_ (i := 23) (N := some 49) (v := undef) (a' := ?_) (bl_ 38 16777215) rfl rfl (any_of HT_.out (by kernel_rfl)) (fun _ _ _ h => h) (Or.inr ⟨by rfl, rfl⟩) ?_ ?_
     rotate_left
     ·simp only [Act.put, sA_, sB_, sC_, i64_w, i32_w]
      rfl
     refine pure_ (i := 24) (N := some 50) (v := undef) (a' := ?_) (bl_ 38 33554431) rfl rfl (any_of HT_.out (by kernel_rfl)) (fun _ _ _ h => h) (Or.inr ⟨by rfl, rfl⟩) ?_ ?_
     rotate_left
     ·simp only [Act.put, sA_, sB_, sC_, i64_w, i32_w]
      rfl
     refine pu_ 25 (some 51) (bl_ 38 67108863) HT_ ?_
     refine pu_ 26 (some 52) (bl_ 38 134217727) HT_ ?_
     refine pure_ (i := 27) (N := some 53) (v := undef) (a' := ?_) (bl_ 38 268435455) rfl rfl (any_of HT_.out (by kernel_rfl)) (fun _ _ _ h => h) (Or.inr ⟨by rfl, rfl⟩) ?_ ?_
     rotate_left
     ·simp only [Act.put, sA_, sB_, sC_, i64_w, i32_w]
      rfl
     refine pure_ (i := 28) (N := some 54) (v := undef) (a' := ?_) (bl_ 38 536870911) rfl rfl (any_of HT_.out (by kernel_rfl)) (fun _ _ _ h => h) (Or.inr ⟨by rfl, rfl⟩) ?_ ?_
     rotate_left
     ·simp only [Act.put, sA_, sB_, sC_, i64_w, i32_w]
      rfl
     refine pure_ (i := 29) (N := some 55) (v := undef) (a' := ?_) (bl_ 38 1073741823) rfl rfl (any_of HT_.out (by kernel_rfl)) (fun _ _ _ h => h) (Or.inr ⟨by rfl, rfl⟩) ?_ ?_
     rotate_left
     ·simp only [Act.put, sA_, sB_, sC_, i64_w, i32_w]
      rfl
     refine pure_ (i := 30) (N := some 56) (v := undef) (a' := ?_) (bl_ 38 2147483647) rfl rfl (any_of HT_.out (by kernel_rfl)) (fun _ _ _ h => h) (Or.inr ⟨by rfl, rfl⟩) ?_ ?_
     rotate_left
     ·simp only [Act.put, sA_, sB_, sC_, i64_w, i32_w]
      rfl
     refine pu_ 31 (some 57) (bl_ 38 4294967295) HT_ ?_
     refine pu_ 32 (some 58) (bl_ 38 8589934591) HT_ ?_
     refine pure_ (i := 33) (N := some 59) (v := undef) (a' := ?_) (bl_ 38 17179869183) rfl rfl (any_of HT_.out (by kernel_rfl)) (fun _ _ _ h => h) (Or.inr ⟨by rfl, rfl⟩) ?_ ?_
     rotate_left
     ·simp only [Act.put, sA_, sB_, sC_, i64_w, i32_w]
      rfl
     refine pure_ (i := 34) (N := some 60) (v := undef) (a' := ?_) (bl_ 38 34359738367) rfl rfl (any_of HT_.out (by kernel_rfl)) (fun _ _ _ h => h) (Or.inr ⟨by rfl, rfl⟩) ?_ ?_
     rotate_left
     ·simp only [Act.put, sA_, sB_, sC_, i64_w, i32_w]
      rfl
     refine pure_ (i := 35) (N := some 61) (v := undef) (a' := ?_) (bl_ 38 68719476735) rfl rfl (any_of HT_.out (by kernel_rfl)) (fun _ _ _ h => h) (Or.inr ⟨by rfl, rfl⟩) ?_ ?_
     rotate_left
     ·simp only [Act.put, sA_, sB_, sC_, i64_w, i32_w]
      rfl
     refine pure_ (i := 36) (N := some 62) (v := undef) (a' := ?_) (bl_ 38 137438953471) rfl rfl (any_of HT_.out (by kernel_rfl)) (fun _ _ _ h => h) (Or.inr ⟨by rfl, rfl⟩) ?_ ?_
     rotate_left
     ·simp only [Act.put, sA_, sB_, sC_, i64_w, i32_w]
      rfl
     refine pu_ 37 (some 63) (bl_ 38 274877906943) HT_ ?_
     refine done_ (done_of HT_.out (by kernel_rfl)) ?_
     try go_wp2
     go_meet
     case rel => exact ⟨_, (true), qc_, H', ⟨qd_⟩, ⟨(rw_ (Kd.R_mono HO587.out (fun _ hk => hk.1)))⟩, ⟨(rw_ (Kd.R_mono HO590.out (fun _ hk => hk.1)))⟩, ⟨(kk_ BK591)⟩, ⟨hB_⟩⟩
   ·replace c18 := Bool.eq_false_iff.mpr c18
    subst c18
    have H1 : (Z44.j0 k t596 true t585 t588) = some r := by rw [if_neg (show ¬ (false = true) by decide)] at H; exact H
    clear H
    have H := H1
    clear H1
    have H' := A_ H
    clear H
    try go_wp2
    replace HO587 := A_ (rC_ HO587.out)
    replace HO590 := A_ (rC_ HO590.out)
    replace HO594 := A_ (rC_ HO594.out)
    replace BK591 := A_ (kB_ BK591.out)
    replace HB := A_ (bC_ HB.out)
    refine start_ (n := 38) (S := fun w' => True) (ds := []) (bl_ 38 0) (by kernel_rfl) rfl (by kernel_rfl) trivial (fun hHeld => ?_); refine with_tabW Z44.tab7 Z44.bits7 (fun HT_ HW_ => ?_)
    generalize w17.drew = w50 at HO587 HO590 HO594 BK591 HB hHeld ⊢
    refine pu_ 0 (some 26) (bl_ 38 1) HT_ ?_
    refine pu_ 1 (some 27) (bl_ 38 3) HT_ ?_
    refine pu_ 2 (some 28) (bl_ 38 7) HT_ ?_
    refine pure_ (i := 3) (N := some 29) (v := undef) (a' := ?_) (bl_ 38 15) rfl rfl (any_of HT_.out (by kernel_rfl)) (fun _ _ _ h => h) (Or.inr ⟨by rfl, rfl⟩) ?_ ?_
    rotate_left
    ·simp only [Act.put, sA_, sB_, sC_, i64_w, i32_w]
     rfl
    refine pure_ (i := 4) (N := some 30) (v := undef) (a' := ?_) (bl_ 38 31) rfl rfl (any_of HT_.out (by kernel_rfl)) (fun _ _ _ h => h) (Or.inr ⟨by rfl, rfl⟩) ?_ ?_
    rotate_left
    ·simp only [Act.put, sA_, sB_, sC_, i64_w, i32_w]
     rfl
    refine pure_ (i := 5) (N := some 31) (v := undef) (a' := ?_) (bl_ 38 63) rfl rfl (any_of HT_.out (by kernel_rfl)) (fun _ _ _ h => h) (Or.inr ⟨by rfl, rfl⟩) ?_ ?_
    rotate_left
    ·simp only [Act.put, sA_, sB_, sC_, i64_w, i32_w]
     rfl
    refine pure_ (i := 6) (N := some 32) (v := undef) (a' := ?_) (bl_ 38 127) rfl rfl (any_of HT_.out (by kernel_rfl)) (fun _ _ _ h => h) (Or.inr ⟨by rfl, rfl⟩) ?_ ?_
    rotate_left
    ·simp only [Act.put, sA_, sB_, sC_, i64_w, i32_w]
     rfl
    refine pure_ (i := 7) (N := some 33) (v := undef) (a' := ?_) (bl_ 38 255) rfl rfl (any_of HT_.out (by kernel_rfl)) (fun _ _ _ h => h) (Or.inr ⟨by rfl, rfl⟩) ?_ ?_
    rotate_left
    ·simp only [Act.put, sA_, sB_, sC_, i64_w, i32_w]
     rfl
    refine pu_ 8 (some 34) (bl_ 38 511) HT_ ?_
    refine pu_ 9 (some 35) (bl_ 38 1023) HT_ ?_
    refine pure_ (i := 10) (N := some 36) (v := undef) (a' := ?_) (bl_ 38 2047) rfl rfl (any_of HT_.out (by kernel_rfl)) (fun _ _ _ h => h) (Or.inr ⟨by rfl, rfl⟩) ?_ ?_
    rotate_left
    ·simp only [Act.put, sA_, sB_, sC_, i64_w, i32_w]
     rfl
    refine pure_ (i := 11) (N := some 37) (v := undef) (a' := ?_) (bl_ 38 4095) rfl rfl (any_of HT_.out (by kernel_rfl)) (fun _ _ _ h => h) (Or.inr ⟨by rfl, rfl⟩) ?_ ?_
    rotate_left
    ·simp only [Act.put, sA_, sB_, sC_, i64_w, i32_w]
     rfl
    refine pure_ (i := 12) (N := some 38) (v := undef) (a' := ?_) (bl_ 38 8191) rfl rfl (any_of HT_.out (by kernel_rfl)) (fun _ _ _ h => h) (Or.inr ⟨by rfl, rfl⟩) ?_ ?_
    rotate_left
    ·simp only [Act.put, sA_, sB_, sC_, i64_w, i32_w]
     rfl
    refine pu_ 13 (some 39) (bl_ 38 16383) HT_ ?_
    refine pu_ 14 (some 40) (bl_ 38 32767) HT_ ?_
    refine pure_ (i := 15) (N := some 41) (v := undef) (a' := ?_) (bl_ 38 65535) rfl rfl (any_of HT_.out (by kernel_rfl)) (fun _ _ _ h => h) (Or.inr ⟨by rfl, rfl⟩) ?_ ?_
    rotate_left
    ·simp only [Act.put, sA_, sB_, sC_, i64_w, i32_w]
     rfl
    refine pure_ (i := 16) (N := some 42) (v := undef) (a' := ?_) (bl_ 38 131071) rfl rfl (any_of HT_.out (by kernel_rfl)) (fun _ _ _ h => h) (Or.inr ⟨by rfl, rfl⟩) ?_ ?_
    rotate_left
    ·simp only [Act.put, sA_, sB_, sC_, i64_w, i32_w]
     rfl
    refine pu_ 17 (some 43) (bl_ 38 262143) HT_ ?_
    refine pu_ 18 (some 44) (bl_ 38 524287) HT_ ?_
    refine pure_ (i := 19) (N := some 45) (v := undef) (a' := ?_) (bl_ 38 1048575) rfl rfl (any_of HT_.out (by kernel_rfl)) (fun _ _ _ h => h) (Or.inr ⟨by rfl, rfl⟩) ?_ ?_
    rotate_left
    ·simp only [Act.put, sA_, sB_, sC_, i64_w, i32_w]
     rfl
    refine pure_ (i := 20) (N := some 46) (v := undef) (a' := ?_) (bl_ 38 2097151) rfl rfl (any_of HT_.out (by kernel_rfl)) (fun _ _ _ h => h) (Or.inr ⟨by rfl, rfl⟩) ?_ ?_
    rotate_left
    ·simp only [Act.put, sA_, sB_, sC_, i64_w, i32_w]
     rfl
    refine pu_ 21 (some 47) (bl_ 38 4194303) HT_ ?_
    refine pu_ 22 (some 48) (bl_ 38 8388607) HT_ ?_
    refine pure_ (i := 23) (N := some 49) (v := undef) (a' := ?_) (bl_ 38 16777215) rfl rfl (any_of HT_.out (by kernel_rfl)) (fun _ _ _ h => h) (Or.inr ⟨by rfl, rfl⟩) ?_ ?_
    rotate_left
    ·simp only [Act.put, sA_, sB_, sC_, i64_w, i32_w]
     rfl
    refine pure_ (i := 24) (N := some 50) (v := undef) (a' := ?_) (bl_ 38 33554431) rfl rfl (any_of HT_.out (by kernel_rfl)) (fun _ _ _ h => h) (Or.inr ⟨by rfl, rfl⟩) ?_ ?_
    rotate_left
    ·simp only [Act.put, sA_, sB_, sC_, i64_w, i32_w]
     rfl
    refine pu_ 25 (some 51) (bl_ 38 67108863) HT_ ?_
    refine pu_ 26 (some 52) (bl_ 38 134217727) HT_ ?_
    refine pure_ (i := 27) (N := some 53) (v := undef) (a' := ?_) (bl_ 38 268435455) rfl rfl (any_of HT_.out (by kernel_rfl)) (fun _ _ _ h => h) (Or.inr ⟨by rfl, rfl⟩) ?_ ?_
    rotate_left
    ·simp only [Act.put, sA_, sB_, sC_, i64_w, i32_w]
     rfl
    refine pure_ (i := 28) (N := some 54) (v := undef) (a' := ?_) (bl_ 38 536870911) rfl rfl (any_of HT_.out (by kernel_rfl)) (fun _ _ _ h => h) (Or.inr ⟨by rfl, rfl⟩) ?_ ?_
    rotate_left
    ·simp only [Act.put, sA_, sB_, sC_, i64_w, i32_w]
     rfl
    refine pure_ (i := 29) (N := some 55) (v := undef) (a' := ?_) (bl_ 38 1073741823) rfl rfl (any_of HT_.out (by kernel_rfl)) (fun _ _ _ h => h) (Or.inr ⟨by rfl, rfl⟩) ?_ ?_
    rotate_left
    ·simp only [Act.put, sA_, sB_, sC_, i64_w, i32_w]
     rfl
    refine pure_ (i := 30) (N := some 56) (v := undef) (a' := ?_) (bl_ 38 2147483647) rfl rfl (any_of HT_.out (by kernel_rfl)) (fun _ _ _ h => h) (Or.inr ⟨by rfl, rfl⟩) ?_ ?_
    rotate_left
    ·simp only [Act.put, sA_, sB_, sC_, i64_w, i32_w]
     rfl
    refine pu_ 31 (some 57) (bl_ 38 4294967295) HT_ ?_
    refine pu_ 32 (some 58) (bl_ 38 8589934591) HT_ ?_
    refine pure_ (i := 33) (N := some 59) (v := undef) (a' := ?_) (bl_ 38 17179869183) rfl rfl (any_of HT_.out (by kernel_rfl)) (fun _ _ _ h => h) (Or.inr ⟨by rfl, rfl⟩) ?_ ?_
    rotate_left
    ·simp only [Act.put, sA_, sB_, sC_, i64_w, i32_w]
     rfl
    refine pure_ (i := 34) (N := some 60) (v := undef) (a' := ?_) (bl_ 38 34359738367) rfl rfl (any_of HT_.out (by kernel_rfl)) (fun _ _ _ h => h) (Or.inr ⟨by rfl, rfl⟩) ?_ ?_
    rotate_left
    ·simp only [Act.put, sA_, sB_, sC_, i64_w, i32_w]
     rfl
    refine pure_ (i := 35) (N := some 61) (v := undef) (a' := ?_) (bl_ 38 68719476735) rfl rfl (any_of HT_.out (by kernel_rfl)) (fun _ _ _ h => h) (Or.inr ⟨by rfl, rfl⟩) ?_ ?_
    rotate_left
    ·simp only [Act.put, sA_, sB_, sC_, i64_w, i32_w]
     rfl
    refine pure_ (i := 36) (N := some 62) (v := undef) (a' := ?_) (bl_ 38 137438953471) rfl rfl (any_of HT_.out (by kernel_rfl)) (fun _ _ _ h => h) (Or.inr ⟨by rfl, rfl⟩) ?_ ?_
    rotate_left
    ·simp only [Act.put, sA_, sB_, sC_, i64_w, i32_w]
     rfl
    refine pu_ 37 (some 63) (bl_ 38 274877906943) HT_ ?_
    refine done_ (done_of HT_.out (by kernel_rfl)) ?_
    try go_wp2
    go_meet
    case rel => exact ⟨_, (true), qc_, H', ⟨qd_⟩, ⟨(rw_ (Kd.R_mono HO587.out (fun _ hk => hk.1)))⟩, ⟨(rw_ (Kd.R_mono HO590.out (fun _ hk => hk.1)))⟩, ⟨(kk_ BK591)⟩, ⟨hB_⟩⟩
  case rest =>
   clear HC7
   obtain ⟨kq, x63_6, rfl, HA, HJ6, HO_592000, HO_592001, BK591, HB⟩ := hcut
   cases kq with
   | zero => exact absurd HA.out (by simp [Z44.j0])
   | succ kj6 =>
    have H := HA.out
    clear HA
    simp only [Z44.j0] at H
    by_cases c51 : x63_6 = true
    ·subst c51
     rw [if_pos rfl] at H
     exact absurd (Option.some.inj H) (by rw [hr1_.out]; decide)
    ·replace c51 := Bool.eq_false_iff.mpr c51
     subst c51
     have H1 : (Z44.l0 kj6 t596 0 t585 t588 t585 t588) = some r := by rw [if_neg (show ¬ (false = true) by decide)] at H; exact H
     clear H
     have H := H1
     clear H1
     have H' := A_ H
     clear H
     obtain ⟨hcz53_0, hcz53_1, hfz53_0, hfz53_1⟩ := c2_ BK591
     go_wp2_with (first | ((with_reducible refine gB_ (N := 8) rfl ?_); (try (refine gate_guard (by rfl) ?_; dsimp only)); refine bx_ 8 #[.slice none 0 0, .slice none 0 0] 25 ?_; intro gb607 hg w55 hbox hb; replace HO_592000 := rb_ HO_592000 hb; replace HO_592001 := rb_ HO_592001 hb; have BK607 := A_ hbox; have GW607 := gw_ w hg; have GE607 := GW607; replace HB := b1_ hb; have NB591_607 := gN_ BK591 hg; have NB607_591 := gP_ BK591 hg; replace BK591 := bb_ BK591 hb; clear hb hbox hg; have hnb57 := NB607_591.out; have hnc57 := NB591_607.out; obtain ⟨hcz58_0, hcz58_1, hfz58_0, hfz58_1⟩ := c2_ BK607))
     go_loopg [9] kj6 (fun kq v9 w' => ∃ (x9_2 : Int) (x608000_2 : List Int) (x608001_2 : List Int) (u608000 : Value) (u608001 : Value), v9 = .int .i64 x9_2 ∧ Aside0 (Z44.l0 kq t596 x9_2 t585 t588 x608000_2 x608001_2 = some r) ∧ Aside0 (kq ≤ kj6) ∧ Aside0 (Kd.R (Kd.int .i64) 3 w' w.heap.size (fun _ => True) (.slice Ao10 t585.length co10) t585) ∧ Aside0 (Kd.R (Kd.int .i64) 3 w' w.heap.size (fun _ => True) (.slice Ao12 t588.length co12) t588) ∧ Aside0 (Kd.R (Kd.int .i64) 3 w' w.heap.size (fun _ => True) u608000 x608000_2) ∧ Aside0 (Kd.R (Kd.int .i64) 3 w' w.heap.size (fun _ => True) u608001 x608001_2) ∧ Aside0 (w'.heap[gb591]? = some (.cells #[(.slice Ao10 t585.length co10), (.slice Ao12 t588.length co12)] 25 (0, 0))) ∧ Aside0 (w'.heap[gb607]? = some (.cells #[u608000, u608001] 25 (0, 0))) ∧ Aside0 (Below w.heap.size w w'))
     case atStart => exact ⟨(0), (t585), (t588), (.slice Ao10 t585.length co10), (.slice Ao12 t588.length co12), qc_, H', ⟨nA_ _⟩, ⟨(rw_ (Kd.R_mono (Kd.R_far (p := ⟨gb607, 1, none⟩) (Kd.R_far (p := ⟨gb607, 0, none⟩) (Kd.R_types HO_592000.out BK607.out (by decide)) (fun _ hk => hk.2) (.slice Ao10 t585.length co10)) (fun _ hk => hk.2) (.slice Ao12 t588.length co12)) (fun _ _ => trivial)))⟩, ⟨(rw_ (Kd.R_mono (Kd.R_far (p := ⟨gb607, 1, none⟩) (Kd.R_far (p := ⟨gb607, 0, none⟩) (Kd.R_types HO_592001.out BK607.out (by decide)) (fun _ hk => hk.2) (.slice Ao10 t585.length co10)) (fun _ hk => hk.2) (.slice Ao12 t588.length co12)) (fun _ _ => trivial)))⟩, ⟨(rw_ (Kd.R_mono (Kd.R_far (p := ⟨gb607, 1, none⟩) (Kd.R_far (p := ⟨gb607, 0, none⟩) (Kd.R_types HO_592000.out BK607.out (by decide)) (fun _ hk => hk.2) (.slice Ao10 t585.length co10)) (fun _ hk => hk.2) (.slice Ao12 t588.length co12)) (fun _ _ => trivial)))⟩, ⟨(rw_ (Kd.R_mono (Kd.R_far (p := ⟨gb607, 1, none⟩) (Kd.R_far (p := ⟨gb607, 0, none⟩) (Kd.R_types HO_592001.out BK607.out (by decide)) (fun _ hk => hk.2) (.slice Ao10 t585.length co10)) (fun _ hk => hk.2) (.slice Ao12 t588.length co12)) (fun _ _ => trivial)))⟩, ⟨by (with_reducible repeat (first | refine kA_ ?_ _ | refine kB_ ?_ | refine kC_ ?_ _)); refine blk_far ?_ NB591_607.out _; (with_reducible repeat (first | refine kA_ ?_ _ | refine kB_ ?_ | refine kC_ ?_ _)); refine blk_far ?_ NB591_607.out _; (with_reducible repeat (first | refine kA_ ?_ _ | refine kB_ ?_ | refine kC_ ?_ _)); exact BK591.out⟩, ⟨qp_⟩, ⟨hB_⟩⟩
     case round =>
      clear H'
      obtain ⟨x9_2, x608000_2, x608001_2, u608000, u608001, rfl, HA, HK2, HO_592000, HO_592001, HO_608000, HO_608001, BK591, BK607, HB⟩ := hrel
      cases gk with
      | zero => exact absurd HA.out (by simp [Z44.l0])
      | succ k2 =>
       have H := HA.out
       clear HA
       simp only [Z44.l0] at H
       by_cases c60 : x9_2 < t596
       ·rw [if_pos c60] at H
        have c60b0 := oC_ c60
        clear c60
        have HC61 := A_ H
        clear H
        go_upto_region 13 with (fail)
        go_cut [76] (fun v76 wc => ∃ (kq : Nat) (x76_60 : Bool), v76 = .bool x76_60 ∧ Aside0 (Z44.j2 kq t596 x9_2 x76_60 t585 t588 x608000_2 x608001_2 = some r) ∧ Aside0 (kq ≤ k2) ∧ Aside0 (Kd.R (Kd.int .i64) 3 wc w.heap.size (fun _ => True) (.slice Ao10 t585.length co10) t585) ∧ Aside0 (Kd.R (Kd.int .i64) 3 wc w.heap.size (fun _ => True) (.slice Ao12 t588.length co12) t588) ∧ Aside0 (Kd.R (Kd.int .i64) 3 wc w.heap.size (fun _ => True) u608000 x608000_2) ∧ Aside0 (Kd.R (Kd.int .i64) 3 wc w.heap.size (fun _ => True) u608001 x608001_2) ∧ Aside0 (wc.heap[gb591]? = some (.cells #[(.slice Ao10 t585.length co10), (.slice Ao12 t588.length co12)] 25 (0, 0))) ∧ Aside0 (wc.heap[gb607]? = some (.cells #[u608000, u608001] 25 (0, 0))) ∧ Aside0 (Below w.heap.size w wc))
        case first =>
         have H := HC61.out
         clear HC61
         by_cases c62 : x9_2 > 0
         ·rw [if_pos c62] at H
          have c62b0 : decide (0 < x9_2) = true := oC_ c62
          clear c62
          (first | rw [c62b0] | (simp only [i64_w, i32_w]; rw [c62b0]) | skip)
          obtain ⟨t609, A63, H⟩ := bi_ H
          have H' := A_ H
          clear H
          have hnb64 := NB607_591.out
          have hnc64 := NB591_607.out
          obtain ⟨hcz65_0, hcz65_1, hfz65_0, hfz65_1⟩ := c2_ BK607
          obtain ⟨hcz66_0, hcz66_1, hfz66_0, hfz66_1⟩ := c2_ BK591
          obtain ⟨Ao67, co67, eo67⟩ := Kd.R_slice HO_608000.out
          subst eo67
          obtain ⟨Ao68, co68, eo68⟩ := Kd.R_slice HO_608001.out
          subst eo68
          go_wp2_with (first | (go_at_call 21; (with_reducible refine (Z8.calls k2 _ _ x608000_2 _ _ x608001_2 _ _ t585 _ _ t588 t609 _ (cr_ HO_608000) ((Kd.R_reads' HO_608000.out).2.1) (cr_ HO_608001) ((Kd.R_reads' HO_608001.out).2.1) (cr_ HO_592000) ((Kd.R_reads' HO_592000.out).2.1) (cr_ HO_592001) ((Kd.R_reads' HO_592001.out).2.1) A63.out).mono ?_); rintro e w69 ⟨rfl, hb⟩; replace HO_592000 := rb_ HO_592000 hb; replace HO_592001 := rb_ HO_592001 hb; replace HO_608000 := rb_ HO_608000 hb; replace HO_608001 := rb_ HO_608001 hb; replace BK591 := bb_ BK591 hb; replace BK607 := bb_ BK607 hb; replace HB := b1_ hb; clear hb))
          go_meet
          case rel => exact ⟨_, (t609), qc_, H', ⟨by have := HJ6.out; have := HK2.out; first | omega | exact nA_ _⟩, ⟨(rr_ HO_592000)⟩, ⟨(rr_ HO_592001)⟩, ⟨(rr_ HO_608000)⟩, ⟨(rr_ HO_608001)⟩, ⟨(kk_ BK591)⟩, ⟨(kk_ BK607)⟩, ⟨hB_⟩⟩
         ·rw [if_neg c62] at H
          have c62b0 : decide (0 < x9_2) = false := oD_ c62
          clear c62
          (first | rw [c62b0] | (simp only [i64_w, i32_w]; rw [c62b0]) | skip)
          have H' := A_ H
          clear H
          go_wp2
          go_meet
          case rel => exact ⟨_, (false), qc_, H', ⟨by have := HJ6.out; have := HK2.out; first | omega | exact nA_ _⟩, ⟨(rr_ HO_592000)⟩, ⟨(rr_ HO_592001)⟩, ⟨(rr_ HO_608000)⟩, ⟨(rr_ HO_608001)⟩, ⟨(kk_ BK591)⟩, ⟨(kk_ BK607)⟩, ⟨hB_⟩⟩
        case rest =>
         clear HC61
         obtain ⟨kq, x76_60, rfl, HA, HJ60, HO_592000, HO_592001, HO_608000, HO_608001, BK591, BK607, HB⟩ := hcut
         cases kq with
         | zero => exact absurd HA.out (by simp [Z44.j2])
         | succ kj60 =>
          have H := HA.out
          clear HA
          simp only [Z44.j2] at H
          by_cases c70 : x76_60 = true
          ·subst c70
           rw [if_pos rfl] at H
           exact absurd (Option.some.inj H) (by rw [hr1_.out]; decide)
          ·replace c70 := Bool.eq_false_iff.mpr c70
           subst c70
           have H1 : ((Z15.f kj60 x608000_2 x608001_2).bind fun bt610 => (if bt610.2.2 = true then (Z44.l0 kj60 t596 (wrap64 (x9_2 + 1)) t585 t588 bt610.1 bt610.2.1) else (some false))) = some r := by rw [if_neg (show ¬ (false = true) by decide)] at H; exact H
           clear H
           have H := H1
           clear H1
           obtain ⟨⟨t610, t613, t616⟩, A71, H⟩ := bi_ H
           try dsimp only at H
           by_cases c72 : t616 = true
           ·subst c72
            rw [if_pos rfl] at H
            have H' := A_ H
            clear H
            have hnb73 := NB607_591.out
            have hnc73 := NB591_607.out
            obtain ⟨hcz74_0, hcz74_1, hfz74_0, hfz74_1⟩ := c2_ BK607
            obtain ⟨Ao75, co75, eo75⟩ := Kd.R_slice HO_608000.out
            subst eo75
            obtain ⟨Ao76, co76, eo76⟩ := Kd.R_slice HO_608001.out
            subst eo76
            go_wp2_with (first | ((with_reducible refine gA_ (f := 22) rfl ?_); refine gL_ (some 79) Try.func22 #[.agg #[.slice Ao75 x608000_2.length co75, .slice Ao76 x608001_2.length co76]] rfl qa_ ?_; (with_reducible refine (Z15.calls kj60 _ _ x608000_2 _ _ x608001_2 t610 t613 true _ (cr_ HO_608000) ((Kd.R_reads' HO_608000.out).2.1) (cr_ HO_608001) ((Kd.R_reads' HO_608001.out).2.1) A71.out).mono ?_); rintro e w77 ⟨v611, v614, rfl, ho0, ho1, hb⟩; refine ⟨_, rfl, ?_⟩; have HO612 := A_ (rE_ (Kd.R_new' (Kd.R_new' (Kd.R_new' (Kd.R_new' ho0 (Kd.R_lt (rr_ HO_592000))) (Kd.R_lt (rr_ HO_592001))) (Kd.R_lt (rr_ HO_608000))) (Kd.R_lt (rr_ HO_608001))) (bF_ hB_)); have HO615 := A_ (rE_ (Kd.R_new' (Kd.R_new' (Kd.R_new' (Kd.R_new' ho1 (Kd.R_lt (rr_ HO_592000))) (Kd.R_lt (rr_ HO_592001))) (Kd.R_lt (rr_ HO_608000))) (Kd.R_lt (rr_ HO_608001))) (bF_ hB_)); replace HO_592000 := A_ (Kd.R_mono (Kd.R_told (Kd.R_told (Kd.R_old (rr_ HO_592000) hb) (Kd.R_base ho0)) (Kd.R_base ho1)) (fun _ h_ => h_.1)); replace HO_592001 := A_ (Kd.R_mono (Kd.R_told (Kd.R_told (Kd.R_old (rr_ HO_592001) hb) (Kd.R_base ho0)) (Kd.R_base ho1)) (fun _ h_ => h_.1)); replace HO_608000 := A_ (Kd.R_mono (Kd.R_told (Kd.R_told (Kd.R_old (rr_ HO_608000) hb) (Kd.R_base ho0)) (Kd.R_base ho1)) (fun _ h_ => h_.1)); replace HO_608001 := A_ (Kd.R_mono (Kd.R_told (Kd.R_told (Kd.R_old (rr_ HO_608001) hb) (Kd.R_base ho0)) (Kd.R_base ho1)) (fun _ h_ => h_.1)); replace BK591 := bb_ BK591 hb; replace BK607 := bb_ BK607 hb; replace HB := b1_ hb; clear hb ho0 ho1) | ((with_reducible refine gB_ (N := 10) rfl ?_); (try (refine gate_guard (by rfl) ?_; dsimp only)); refine bx_ 10 #[.slice none 0 0, .slice none 0 0] 25 ?_; intro gb617 hg w78 hbox hb; replace HO_592000 := rb_ HO_592000 hb; replace HO_592001 := rb_ HO_592001 hb; replace HO_608000 := rb_ HO_608000 hb; replace HO_608001 := rb_ HO_608001 hb; replace HO612 := rb_ HO612 hb; replace HO615 := rb_ HO615 hb; have BK617 := A_ hbox; have GW617 := gw_ w hg; have GE617 := GW617; replace HB := b1_ hb; have NB591_617 := gN_ BK591 hg; have NB617_591 := gP_ BK591 hg; replace BK591 := bb_ BK591 hb; have NB607_617 := gN_ BK607 hg; have NB617_607 := gP_ BK607 hg; replace BK607 := bb_ BK607 hb; clear hb hbox hg; obtain ⟨Ao79, co79, eo79⟩ := Kd.R_slice HO612.out; subst eo79; have hnb80 := NB617_591.out; have hnc80 := NB591_617.out; have hnb81 := NB617_607.out; have hnc81 := NB607_617.out; obtain ⟨hcz82_0, hcz82_1, hfz82_0, hfz82_1⟩ := c2_ BK617; obtain ⟨Ao83, co83, eo83⟩ := Kd.R_slice HO615.out; subst eo83; obtain ⟨hcz84_0, hcz84_1, hfz84_0, hfz84_1⟩ := c2_ BK607))
            go_roundg kj60
            case measure => have := HJ6.out; have := HK2.out; have := HJ60.out; omega
            case rel => exact ⟨(wrap64 (x9_2 + 1)), (t610), (t613), (.slice Ao79 t610.length co79), (.slice Ao83 t613.length co83), qc_, H', ⟨by have := HJ6.out; have := HK2.out; have := HJ60.out; omega⟩, ⟨(rw_ (Kd.R_mono (Kd.R_far (p := ⟨gb607, 1, none⟩) (Kd.R_far (p := ⟨gb607, 0, none⟩) (Kd.R_far (p := ⟨gb617, 1, none⟩) (Kd.R_far (p := ⟨gb617, 0, none⟩) (Kd.R_types (Kd.R_types HO_592000.out BK617.out (by decide)) BK607.out (by decide)) (fun _ hk => hk.1.2) (.slice Ao79 t610.length co79)) (fun _ hk => hk.1.2) (.slice Ao83 t613.length co83)) (fun _ hk => hk.2) (.slice Ao79 t610.length co79)) (fun _ hk => hk.2) (.slice Ao83 t613.length co83)) (fun _ _ => trivial)))⟩, ⟨(rw_ (Kd.R_mono (Kd.R_far (p := ⟨gb607, 1, none⟩) (Kd.R_far (p := ⟨gb607, 0, none⟩) (Kd.R_far (p := ⟨gb617, 1, none⟩) (Kd.R_far (p := ⟨gb617, 0, none⟩) (Kd.R_types (Kd.R_types HO_592001.out BK617.out (by decide)) BK607.out (by decide)) (fun _ hk => hk.1.2) (.slice Ao79 t610.length co79)) (fun _ hk => hk.1.2) (.slice Ao83 t613.length co83)) (fun _ hk => hk.2) (.slice Ao79 t610.length co79)) (fun _ hk => hk.2) (.slice Ao83 t613.length co83)) (fun _ _ => trivial)))⟩, ⟨(rw_ (Kd.R_mono (Kd.R_far (p := ⟨gb607, 1, none⟩) (Kd.R_far (p := ⟨gb607, 0, none⟩) (Kd.R_far (p := ⟨gb617, 1, none⟩) (Kd.R_far (p := ⟨gb617, 0, none⟩) (Kd.R_types (Kd.R_types HO612.out BK617.out (by decide)) BK607.out (by decide)) (fun _ hk => hk.1.2) (.slice Ao79 t610.length co79)) (fun _ hk => hk.1.2) (.slice Ao83 t613.length co83)) (fun _ hk => hk.2) (.slice Ao79 t610.length co79)) (fun _ hk => hk.2) (.slice Ao83 t613.length co83)) (fun _ _ => trivial)))⟩, ⟨(rw_ (Kd.R_mono (Kd.R_far (p := ⟨gb607, 1, none⟩) (Kd.R_far (p := ⟨gb607, 0, none⟩) (Kd.R_far (p := ⟨gb617, 1, none⟩) (Kd.R_far (p := ⟨gb617, 0, none⟩) (Kd.R_types (Kd.R_types HO615.out BK617.out (by decide)) BK607.out (by decide)) (fun _ hk => hk.1.2) (.slice Ao79 t610.length co79)) (fun _ hk => hk.1.2) (.slice Ao83 t613.length co83)) (fun _ hk => hk.2) (.slice Ao79 t610.length co79)) (fun _ hk => hk.2) (.slice Ao83 t613.length co83)) (fun _ _ => trivial)))⟩, ⟨by (with_reducible repeat (first | refine kA_ ?_ _ | refine kB_ ?_ | refine kC_ ?_ _)); refine blk_far ?_ NB591_607.out _; (with_reducible repeat (first | refine kA_ ?_ _ | refine kB_ ?_ | refine kC_ ?_ _)); refine blk_far ?_ NB591_607.out _; (with_reducible repeat (first | refine kA_ ?_ _ | refine kB_ ?_ | refine kC_ ?_ _)); refine blk_far ?_ NB591_617.out _; (with_reducible repeat (first | refine kA_ ?_ _ | refine kB_ ?_ | refine kC_ ?_ _)); refine blk_far ?_ NB591_617.out _; (with_reducible repeat (first | refine kA_ ?_ _ | refine kB_ ?_ | refine kC_ ?_ _)); exact BK591.out⟩, ⟨by (with_reducible repeat (first | refine kA_ ?_ _ | refine kB_ ?_ | refine kC_ ?_ _)); refine blk_put (cs := #[.slice Ao79 t610.length co79, .slice Ao76 x608001_2.length co76]) ?_ 1 _ rfl; (with_reducible repeat (first | refine kA_ ?_ _ | refine kB_ ?_ | refine kC_ ?_ _)); refine blk_put (cs := #[.slice Ao75 x608000_2.length co75, .slice Ao76 x608001_2.length co76]) ?_ 0 _ rfl; (with_reducible repeat (first | refine kA_ ?_ _ | refine kB_ ?_ | refine kC_ ?_ _)); refine blk_far ?_ NB607_617.out _; (with_reducible repeat (first | refine kA_ ?_ _ | refine kB_ ?_ | refine kC_ ?_ _)); refine blk_far ?_ NB607_617.out _; (with_reducible repeat (first | refine kA_ ?_ _ | refine kB_ ?_ | refine kC_ ?_ _)); exact BK607.out⟩, ⟨hB_⟩⟩
           ·replace c72 := Bool.eq_false_iff.mpr c72
            subst c72
            have H1 : (some false) = some r := by rw [if_neg (show ¬ (false = true) by decide)] at H; exact H
            clear H
            have H := H1
            clear H1
            exact absurd (Option.some.inj H) (by rw [hr1_.out]; decide)
       ·rw [if_neg c60] at H
        have c60b0 := oD_ c60
        clear c60
        obtain ⟨t608, A85, H⟩ := bi_ H
        obtain rfl := Option.some.inj H
        have hnb86 := NB607_591.out
        have hnc86 := NB591_607.out
        obtain ⟨hcz87_0, hcz87_1, hfz87_0, hfz87_1⟩ := c2_ BK607
        obtain ⟨hcz88_0, hcz88_1, hfz88_0, hfz88_1⟩ := c2_ BK591
        obtain ⟨Ao89, co89, eo89⟩ := Kd.R_slice HO_608000.out
        subst eo89
        obtain ⟨Ao90, co90, eo90⟩ := Kd.R_slice HO_608001.out
        subst eo90
        go_wp2_with (first | ((with_reducible refine gA_ (f := 21) rfl ?_); refine gL_ (some 87) Try.func21 #[.agg #[.slice Ao89 x608000_2.length co89, .slice Ao90 x608001_2.length co90], .agg #[.slice Ao10 t585.length co10, .slice Ao12 t588.length co12]] rfl qa_ ?_; (with_reducible refine (Z8.calls k2 _ _ x608000_2 _ _ x608001_2 _ _ t585 _ _ t588 t608 _ (cr_ HO_608000) ((Kd.R_reads' HO_608000.out).2.1) (cr_ HO_608001) ((Kd.R_reads' HO_608001.out).2.1) (cr_ HO_592000) ((Kd.R_reads' HO_592000.out).2.1) (cr_ HO_592001) ((Kd.R_reads' HO_592001.out).2.1) A85.out).mono ?_); rintro e w91 ⟨rfl, hb⟩; refine ⟨_, rfl, ?_⟩; replace HO_592000 := rb_ HO_592000 hb; replace HO_592001 := rb_ HO_592001 hb; replace HO_608000 := rb_ HO_608000 hb; replace HO_608001 := rb_ HO_608001 hb; replace BK591 := bb_ BK591 hb; replace BK607 := bb_ BK607 hb; replace HB := b1_ hb; clear hb))
        go_ret
        exact ⟨qb_, hB_⟩
end Go.Proofs.Ytcggfjpnfodbaaa.A
end
section
/- Plain mathematics: permutations of whole numbers, and what is reached by two of them. No conditions. -/
namespace Go.Proofs.Ytcggfjpnfodbaaa.M
set_option linter.unusedVariables false
set_option linter.unusedSimpArgs false
open Go.RowKit Go.Proofs.YtcggfjpnfodbaaaW.PrintWords Go.Proofs.YtcggfjpnfodbaaaW.PrintLast Go.Proofs.YtcggfjpnfodbaaaW.PrintMore
theorem w64 {x : Int} (h0 : -9223372036854775808 ≤ x) (h1 : x ≤ 9223372036854775807) : wrap64 x = x := by unfold wrap64; omega
theorem w64s (i : Nat) (h : i ≤ 9000000000000000000) : wrap64 ((i : Int) + 1) = ((i + 1 : Nat) : Int) := by rw [w64 (by omega) (by omega)]; omega
theorem ev_succ {α : Type} {f : Nat → Option α} {r : α} (h : Ev (fun k => f (k + 1)) r) : Ev f r := Ev.step (fun _ => rfl) h
theorem rdI (p : List Nat) (i : Nat) : rd (I p) (i : Int) = ((g p i : Nat) : Int) := by
 unfold rd g I
 simp only [Int.toNat_natCast, List.getD_eq_getElem?_getD, List.getElem?_map]
 cases p[i]? <;> rfl
theorem rd_get (l : List Int) (i : Nat) (h : i < l.length) : rd l (i : Int) = l[i] := by
 unfold rd
 simp [List.getD_eq_getElem?_getD, h]
theorem mem_I {p : List Nat} {x : Nat} : (x : Int) ∈ I p ↔ x ∈ p := by
 unfold I
 constructor
 ·intro h
  obtain ⟨y, hy, e⟩ := List.mem_map.mp h
  have : y = x := Int.ofNat.inj e
  exact this ▸ hy
 ·intro h
  exact List.mem_map.mpr ⟨x, h, rfl⟩
def PI (l : List Int) : Prop := l.length ≤ 24 ∧ (∀ x ∈ l, 0 ≤ x ∧ x < (l.length : Int)) ∧ l.Nodup
instance : DecidablePred PI := fun l => by unfold PI; infer_instance
def permB (l : List Int) : Bool := decide (PI l)
def N (l : List Int) : List Nat := l.map Int.toNat
theorem N_I (p : List Nat) : N (I p) = p := by
 unfold N I
 rw [List.map_map]
 exact List.map_id'' (fun x => rfl) p
theorem N_len (l : List Int) : (N l).length = l.length := by simp [N]
theorem I_N {l : List Int} (h : ∀ x ∈ l, 0 ≤ x) : I (N l) = l := by
 unfold N I
 rw [List.map_map]
 conv => rhs; rw [← List.map_id l]
 apply List.map_congr_left
 intro x hx
 have := h x hx
 simp only [Function.comp, id]
 show ((x.toNat : Nat) : Int) = x
 omega
theorem PI_nat {l : List Int} (h : PI l) : ∃ p, l = I p ∧ IsP p ∧ p.length ≤ 24 := by
 obtain ⟨h1, h2, h3⟩ := h
 refine ⟨N l, (I_N (fun x hx => (h2 x hx).1)).symm, ?_, by rw [N_len]; exact h1⟩
 have e := I_N (fun x hx => (h2 x hx).1)
 refine ⟨fun x hx => ?_, ?_⟩
 ·have := (h2 (x : Int) (by rw [← e]; exact mem_I.mpr hx)).2
  rw [N_len]
  omega
 ·rw [← e] at h3
  unfold I at h3
  exact (List.pairwise_map.mp h3).imp (fun {a b} hab hh => hab (by rw [hh]))
theorem PI_I {p : List Nat} : PI (I p) ↔ IsP p ∧ p.length ≤ 24 := by
 constructor
 ·intro h
  obtain ⟨q, e, h1, h2⟩ := PI_nat h
  have := I_inj e
  subst this
  exact ⟨h1, h2⟩
 ·intro ⟨h1, h2⟩
  refine ⟨by rw [I_len]; exact h2, fun x hx => ?_, ?_⟩
  ·unfold I at hx
   obtain ⟨y, hy, rfl⟩ := List.mem_map.mp hx
   have := h1.lt y hy
   rw [I_len]
   exact ⟨Int.natCast_nonneg y, Int.ofNat_lt.mpr this⟩
  ·unfold I
   exact List.pairwise_map.mpr (h1.nd.imp (fun {a b} hab hh => hab (Int.ofNat.inj hh)))
theorem permB_I {p : List Nat} : permB (I p) = true ↔ IsP p ∧ p.length ≤ 24 := by
 unfold permB
 rw [decide_eq_true_iff]
 exact PI_I
def okFrom (l : List Int) (i : Nat) : Prop := ∀ j : Nat, i ≤ j → j < l.length → 0 ≤ rd l (j : Int) ∧ rd l (j : Int) < (l.length : Int) ∧ rd l (j : Int) ∉ l.take j
theorem okFrom_end (l : List Int) (i : Nat) (h : l.length ≤ i) : okFrom l i := fun j h1 h2 => by omega
theorem okFrom_step {l : List Int} {i : Nat} (h : 0 ≤ rd l (i : Int) ∧ rd l (i : Int) < (l.length : Int) ∧ rd l (i : Int) ∉ l.take i) : okFrom l i ↔ okFrom l (i + 1) := by
 constructor
 ·intro k j h1 h2
  exact k j (by omega) h2
 ·intro k j h1 h2
  by_cases e : j = i
  ·subst e
   exact h
  ·exact k j (by omega) h2
theorem okFrom_not {l : List Int} {i : Nat} (hi : i < l.length) (h : ¬ (0 ≤ rd l (i : Int) ∧ rd l (i : Int) < (l.length : Int) ∧ rd l (i : Int) ∉ l.take i)) : ¬ okFrom l i := fun k => h (k i (Nat.le_refl _) hi)
theorem okFrom_PI {l : List Int} (h : l.length ≤ 24) : okFrom l 0 ↔ PI l := by
 constructor
 ·intro k
  refine ⟨h, fun x hx => ?_, ?_⟩
  ·obtain ⟨i, hi, rfl⟩ := List.mem_iff_getElem.mp hx
   have := k i (Nat.zero_le _) hi
   rw [rd_get l i hi] at this
   exact ⟨this.1, this.2.1⟩
  ·refine List.pairwise_iff_getElem.mpr ?_
   intro i j hi hj hij e
   have := (k j (Nat.zero_le _) hj).2.2
   rw [rd_get l j hj, ← e] at this
   exact this (List.mem_take_iff_getElem.mpr ⟨i, by omega, rfl⟩)
 ·intro ⟨_, h2, h3⟩ j _ hj
  rw [rd_get l j hj]
  refine ⟨(h2 _ (List.getElem_mem hj)).1, (h2 _ (List.getElem_mem hj)).2, fun hm => ?_⟩
  obtain ⟨i, hi, e⟩ := List.mem_take_iff_getElem.mp hm
  exact List.pairwise_iff_getElem.mp h3 i j (by omega) hj (by omega) e
theorem permB_of {l : List Int} {b : Bool} (h : l.length ≤ 24) (hb : b = true ↔ okFrom l 0) : b = permB l := by
 rw [Bool.eq_iff_iff, hb, okFrom_PI h]
 unfold permB
 rw [decide_eq_true_iff]
theorem take_succ (l : List Int) (i : Nat) (h : i < l.length) : l.take (i + 1) = l.take i ++ [rd l (i : Int)] := by
 rw [rd_get l i h, List.take_append_getElem h]
def st1 (out : List Nat) (x : Nat) : List Nat := if x ∈ out then out else out ++ [x]
def bfs (p q : List Nat) : Nat → Nat → List Nat → List Nat
 | 0, _, out => out
 | f + 1, a, out => if a < out.length then bfs p q f (a + 1) (st1 (st1 out (g p (g out a))) (g q (g out a))) else out
def reach (p q : List Nat) (s : Nat) : List Nat := bfs p q (p.length + 1) 0 [s]
structure RInv (n : Nat) (out : List Nat) : Prop where
 nd : out.Nodup
 lt : ∀ x ∈ out, x < n
theorem RInv.le {n : Nat} {out : List Nat} (h : RInv n out) : out.length ≤ n := nodup_le n out h.nd h.lt
theorem RInv.st {n : Nat} {out : List Nat} {x : Nat} (h : RInv n out) (hx : x < n) : RInv n (st1 out x) := by
 unfold st1
 split
 ·exact h
 ·rename_i hn
  refine ⟨List.nodup_append.mpr ⟨h.nd, by simp, fun a ha b hb e => ?_⟩, fun y hy => ?_⟩
  ·have : b = x := by simpa using hb
   subst this
   exact hn (e ▸ ha)
  ·rcases List.mem_append.mp hy with hy | hy
   ·exact h.lt y hy
   ·have : y = x := by simpa using hy
    omega
theorem st1_len (out : List Nat) (x : Nat) : out.length ≤ (st1 out x).length := by
 unfold st1
 split <;> simp
theorem RInv.g {n : Nat} {out : List Nat} {a : Nat} (h : RInv n out) (ha : a < out.length) : M.g out a < n := h.lt _ (g_mem ha)
structure Sf (r u : List Nat) : Prop where
 pr : IsP r
 pu : IsP u
 le : r.length ≤ 24
 eq : u.length = r.length
 pos : 0 < r.length
 all : (reach r u 0).length = r.length
def surfB (r u : List Int) : Bool := permB r && permB u && decide (r.length = u.length) && decide (0 < r.length) && ((reach (N r) (N u) 0).length == r.length)
theorem surf_nat {r u : List Int} (h : surfB r u = true) : ∃ r' u', r = I r' ∧ u = I u' ∧ Sf r' u' := by
 unfold surfB at h
 simp only [Bool.and_eq_true, decide_eq_true_eq, beq_iff_eq] at h
 obtain ⟨⟨⟨⟨h1, h2⟩, h3⟩, h4⟩, h5⟩ := h
 obtain ⟨r', rfl, a1, a2⟩ := PI_nat (of_decide_eq_true h1)
 obtain ⟨u', rfl, b1, b2⟩ := PI_nat (of_decide_eq_true h2)
 rw [N_I, N_I, I_len] at h5
 rw [I_len, I_len] at h3
 rw [I_len] at h4
 exact ⟨r', u', rfl, rfl, a1, b1, a2, h3.symm, h4, h5⟩
theorem surfB_I {r u : List Nat} : surfB (I r) (I u) = true ↔ Sf r u := by
 constructor
 ·intro h
  obtain ⟨r', u', e1, e2, hs⟩ := surf_nat h
  have := I_inj e1
  have := I_inj e2
  subst_vars
  exact hs
 ·intro h
  unfold surfB
  simp only [Bool.and_eq_true, decide_eq_true_eq, beq_iff_eq]
  rw [N_I, N_I, I_len, I_len]
  exact ⟨⟨⟨⟨permB_I.mpr ⟨h.pr, h.le⟩, permB_I.mpr ⟨h.pu, by have := h.le; have := h.eq; omega⟩⟩, h.eq.symm⟩, h.pos⟩, h.all⟩
end Go.Proofs.Ytcggfjpnfodbaaa.M
end
section
/- Plain mathematics: surfaces, and what the four letters make of them. No conditions. -/
namespace Go.Proofs.Ytcggfjpnfodbaaa.M
set_option linter.unusedVariables false
set_option linter.unusedSimpArgs false
theorem st1_mem {out : List Nat} {x y : Nat} : y ∈ st1 out x ↔ y ∈ out ∨ y = x := by
 unfold st1
 split
 ·rename_i h
  constructor
  ·exact Or.inl
  ·rintro (h' | rfl)
   ·exact h'
   ·exact h
 ·simp
theorem st1_g {out : List Nat} {x i : Nat} (h : i < out.length) : g (st1 out x) i = g out i := by
 unfold st1
 split
 ·rfl
 ·unfold g
  rw [List.getD_eq_getElem?_getD, List.getD_eq_getElem?_getD, List.getElem?_append_left h]
theorem st1_le (out : List Nat) (x : Nat) : out.length ≤ (st1 out x).length := by
 unfold st1
 split
 ·exact Nat.le_refl _
 ·simp
theorem bfs_ind {r u : List Nat} {n : Nat} (S : Nat → Prop) (h1 : ∀ x, x < n → S x → S (g r x) ∧ g r x < n) (h2 : ∀ x, x < n → S x → S (g u x) ∧ g u x < n) : ∀ (F a : Nat) (out : List Nat), (∀ x ∈ out, S x ∧ x < n) → ∀ x ∈ bfs r u F a out, S x ∧ x < n := by
 intro F
 induction F with
 | zero => intro a out h; exact h
 | succ F ih =>
  intro a out h
  unfold bfs
  split
  ·rename_i ha
   obtain ⟨s, l⟩ := h _ (g_mem ha)
   refine ih _ _ (fun x hx => ?_)
   rcases st1_mem.mp hx with hx | rfl
   ·rcases st1_mem.mp hx with hx | rfl
    ·exact h x hx
    ·exact h1 _ l s
   ·exact h2 _ l s
  ·exact h
theorem bfs_sub {r u : List Nat} : ∀ (F a : Nat) (out : List Nat), ∀ x ∈ out, x ∈ bfs r u F a out := by
 intro F
 induction F with
 | zero => intro a out x h; exact h
 | succ F ih =>
  intro a out x h
  unfold bfs
  split
  ·exact ih _ _ x (st1_mem.mpr (.inl (st1_mem.mpr (.inl h))))
  ·exact h
theorem bfs_rinv {r u : List Nat} {n : Nat} (h1 : ∀ x, x < n → g r x < n) (h2 : ∀ x, x < n → g u x < n) : ∀ (F a : Nat) (out : List Nat), RInv n out → RInv n (bfs r u F a out) := by
 intro F
 induction F with
 | zero => intro a out h; exact h
 | succ F ih =>
  intro a out h
  unfold bfs
  split
  ·rename_i ha
   have hx := h.g ha
   exact ih _ _ ((h.st (h1 _ hx)).st (h2 _ hx))
  ·exact h
theorem bfs_shut {r u : List Nat} {n : Nat} (h1 : ∀ x, x < n → g r x < n) (h2 : ∀ x, x < n → g u x < n) : ∀ (F a : Nat) (out : List Nat), RInv n out → a ≤ out.length → n < F + a → (∀ i, i < a → g r (g out i) ∈ out ∧ g u (g out i) ∈ out) → ∀ x ∈ bfs r u F a out, g r x ∈ bfs r u F a out ∧ g u x ∈ bfs r u F a out := by
 intro F
 induction F with
 | zero =>
  intro a out h ha hF
  have := h.le
  omega
 | succ F ih =>
  intro a out h ha hF hc
  unfold bfs
  split
  ·rename_i ha'
   have hx := h.g ha'
   have r1 := h.st (h1 _ hx)
   have l1 := st1_le out (g r (g out a))
   have l2 := st1_le (st1 out (g r (g out a))) (g u (g out a))
   refine ih _ _ (r1.st (h2 _ hx)) (by omega) (by omega) (fun i hi => ?_)
   have e : g (st1 (st1 out (g r (g out a))) (g u (g out a))) i = g out i := by
    rw [st1_g (by omega), st1_g (by omega)]
   rw [e]
   by_cases hia : i < a
   ·exact ⟨st1_mem.mpr (.inl (st1_mem.mpr (.inl (hc i hia).1))), st1_mem.mpr (.inl (st1_mem.mpr (.inl (hc i hia).2)))⟩
   ·obtain rfl : i = a := by omega
    exact ⟨st1_mem.mpr (.inl (st1_mem.mpr (.inr rfl))), st1_mem.mpr (.inr rfl)⟩
  ·intro x hx
   obtain ⟨i, hi, rfl⟩ := mem_g hx
   exact hc i (by omega)
theorem nodup_sub_len5 : ∀ (a b : List Nat), a.Nodup → (∀ x ∈ a, x ∈ b) → a.length ≤ b.length := by
 intro a
 induction a with
 | nil => intro b _ _; simp
 | cons x a ih =>
  intro b hn h
  obtain ⟨h1, h2⟩ := List.nodup_cons.mp hn
  have hx : x ∈ b := h x (by simp)
  have := ih (b.erase x) h2 (fun y hy => (List.mem_erase_of_ne (fun e => h1 (by rw [← e]; exact hy))).mpr (h y (by simp [hy])))
  rw [List.length_erase_of_mem hx] at this
  have hp := List.length_pos_of_mem hx
  simp
  omega
def Tr (r u : List Nat) : Prop := ∀ S : Nat → Prop, S 0 → (∀ x, x < r.length → S x → S (g r x)) → (∀ x, x < r.length → S x → S (g u x)) → ∀ x, x < r.length → S x
theorem sf_of_tr {r u : List Nat} (pr : IsP r) (pu : IsP u) (le : r.length ≤ 24) (eq : u.length = r.length) (pos : 0 < r.length) (h : Tr r u) : Sf r u := by
 have b1 : ∀ x, x < r.length → g r x < r.length := fun x hx => g_lt pr hx
 have b2 : ∀ x, x < r.length → g u x < r.length := fun x hx => by have := g_lt pu (i := x) (by omega); omega
 have hri : RInv r.length (reach r u 0) := bfs_rinv b1 b2 _ _ _ ⟨by simp, by simpa using pos⟩
 have hsh := bfs_shut b1 b2 (r.length + 1) 0 [0] ⟨by simp, by simpa using pos⟩ (by simp) (by omega) (fun i hi => by omega)
 have hall : ∀ x, x < r.length → x ∈ reach r u 0 := h (fun x => x ∈ reach r u 0) (bfs_sub _ _ _ 0 (by simp)) (fun x _ hx => (hsh x hx).1) (fun x _ hx => (hsh x hx).2)
 refine ⟨pr, pu, le, eq, pos, ?_⟩
 have l1 := hri.le
 have l2 := nodup_sub_len5 (List.range r.length) (reach r u 0) List.nodup_range (fun x hx => hall x (List.mem_range.mp hx))
 rw [List.length_range] at l2
 omega
theorem Sf.tr {r u : List Nat} (hs : Sf r u) : Tr r u := by
 intro S s0 h1 h2 x hx
 have b1 : ∀ x, x < r.length → g r x < r.length := fun x hx => g_lt hs.pr hx
 have b2 : ∀ x, x < r.length → g u x < r.length := fun x hx => by have := g_lt hs.pu (i := x) (by rw [hs.eq]; exact hx); rw [hs.eq] at this; exact this
 have hri : RInv r.length (reach r u 0) := bfs_rinv b1 b2 _ _ _ ⟨by simp, by simpa using hs.pos⟩
 have hp : IsP (reach r u 0) := ⟨fun x hx => by rw [hs.all]; exact hri.lt x hx, hri.nd⟩
 have hm := mem_all hp (x := x) (by rw [hs.all]; exact hx)
 have h0 : ∀ y ∈ [0], S y ∧ y < r.length := by
  intro y hy
  obtain rfl : y = 0 := by simpa using hy
  exact ⟨s0, hs.pos⟩
 exact (bfs_ind S (fun x hx h => ⟨h1 x hx h, b1 x hx⟩) (fun x hx h => ⟨h2 x hx h, b2 x hx⟩) _ _ [0] h0 x hm).1
theorem closed_back {p : List Nat} (hp : IsP p) {S : Nat → Prop} (hS : ∀ x, x < p.length → S x → S (g p x)) {x : Nat} (hx : x < p.length) (h : S (g p x)) : S x := by
 obtain ⟨m, h1, _, h3⟩ := period hp hx
 have H : ∀ k, S (itr p k (g p x)) := by
  intro k
  induction k with
  | zero => exact h
  | succ k ih => exact hS _ (itr_lt hp k (g_lt hp hx)) ih
 have e : itr p (m - 1) (g p x) = itr p m x := by
  have := itr_add p (m - 1) 1 x
  rw [show m - 1 + 1 = m by omega] at this
  exact this.symm
 have := H (m - 1)
 rw [e, h3] at this
 exact this
theorem reach_full {r u : List Nat} (hs : Sf r u) {s : Nat} (hb : s < r.length) : RInv r.length (reach r u s) ∧ ∀ x, x < r.length → x ∈ reach r u s := by
 have b1 : ∀ x, x < r.length → g r x < r.length := fun x hx => g_lt hs.pr hx
 have b2 : ∀ x, x < r.length → g u x < r.length := fun x hx => by have := g_lt hs.pu (i := x) (by rw [hs.eq]; exact hx); rw [hs.eq] at this; exact this
 have h0 : RInv r.length [s] := ⟨by simp, by simpa using hb⟩
 have hsh := bfs_shut b1 b2 (r.length + 1) 0 [s] h0 (by simp) (by omega) (fun i hi => by omega)
 have hmem : s ∈ reach r u s := bfs_sub _ _ _ s (by simp)
 refine ⟨bfs_rinv b1 b2 _ _ _ h0, ?_⟩
 have z : (0 : Nat) ∈ reach r u s := by
  apply Classical.byContradiction
  intro hz
  refine hs.tr (fun x => x ∉ reach r u s) hz (fun x hx hn hm => ?_) (fun x hx hn hm => ?_) s hb hmem
  ·exact hn (closed_back hs.pr (S := fun x => x ∈ reach r u s) (fun y _ hy => (hsh y hy).1) hx hm)
  ·exact hn (closed_back hs.pu (S := fun x => x ∈ reach r u s) (fun y _ hy => (hsh y hy).2) (by rw [hs.eq]; exact hx) hm)
 exact hs.tr (fun x => x ∈ reach r u s) z (fun x _ hx => (hsh x hx).1) (fun x _ hx => (hsh x hx).2)
theorem sf_T {r u : List Nat} (hs : Sf r u) : Sf r (thn (inv r) u) := by
 have h1 : (inv r).length = u.length := by rw [inv_len, hs.eq]
 refine sf_of_tr hs.pr (isP_thn (isP_inv hs.pr) hs.pu h1) hs.le (by rw [thn_len, inv_len]) hs.pos (fun S s0 k1 k2 => hs.tr S s0 k1 (fun x hx hsx => ?_))
 have := k2 (g r x) (g_lt hs.pr hx) (k1 x hx hsx)
 rw [g_thn (by rw [inv_len]; exact g_lt hs.pr hx), g_inv (g_lt hs.pr hx), ix_g hs.pr hx] at this
 exact this
theorem sf_t {r u : List Nat} (hs : Sf r u) : Sf r (thn r u) := by
 have h1 : r.length = u.length := hs.eq.symm
 refine sf_of_tr hs.pr (isP_thn hs.pr hs.pu h1) hs.le (by rw [thn_len]) hs.pos (fun S s0 k1 k2 => hs.tr S s0 k1 (fun y hy hsy => ?_))
 have hx : ix r y < r.length := ix_lt hs.pr hy
 have e : g r (ix r y) = y := g_ix hs.pr hy
 have hsx : S (ix r y) := closed_back hs.pr (S := S) k1 hx (by rw [e]; exact hsy)
 have := k2 _ hx hsx
 rw [g_thn hx, e] at this
 exact this
theorem sf_S {r u : List Nat} (hs : Sf r u) : Sf (inv u) r := by
 have hl : (inv u).length = r.length := by rw [inv_len, hs.eq]
 refine sf_of_tr (isP_inv hs.pu) hs.pr (by rw [hl]; exact hs.le) hl.symm (by rw [hl]; exact hs.pos) (fun S s0 k1 k2 => ?_)
 rw [hl] at k1 k2 ⊢
 refine hs.tr S s0 k2 (fun x hx hsx => ?_)
 have hx' : g u x < u.length := g_lt hs.pu (by rw [hs.eq]; exact hx)
 refine closed_back (isP_inv hs.pu) (S := S) (fun y hy => k1 y (by rw [← hl]; exact hy)) (x := g u x) (by rw [inv_len]; exact hx') ?_
 rw [g_inv hx', ix_g hs.pu (by rw [hs.eq]; exact hx)]
 exact hsx
theorem sf_s {r u : List Nat} (hs : Sf r u) : Sf u (inv r) := by
 refine sf_of_tr hs.pu (isP_inv hs.pr) (by rw [hs.eq]; exact hs.le) (by rw [inv_len, hs.eq]) (by rw [hs.eq]; exact hs.pos) (fun S s0 k1 k2 => ?_)
 rw [hs.eq] at k1 k2 ⊢
 refine hs.tr S s0 (fun x hx hsx => ?_) k1
 have hx' : g r x < r.length := g_lt hs.pr hx
 refine closed_back (isP_inv hs.pr) (S := S) (fun y hy => k2 y (by rw [inv_len] at hy; exact hy)) (x := g r x) (by rw [inv_len]; exact hx') ?_
 rw [g_inv hx', ix_g hs.pr hx]
 exact hsx
end Go.Proofs.Ytcggfjpnfodbaaa.M
end
section
/- The tests of permutations, program and reference, come to one plain test. No conditions. -/
namespace Go.Proofs.Ytcggfjpnfodbaaa.M
set_option linter.unusedVariables false
set_option linter.unusedSimpArgs false
open Go.RowKit Go.Proofs.YtcggfjpnfodbaaaW.PrintWords Go.Proofs.YtcggfjpnfodbaaaW.PrintLast Go.Proofs.YtcggfjpnfodbaaaW.PrintMore Go.Proofs.Ytcggfjpnfodbaaa.A
theorem has_ev (l : List Int) (a : Int) (hl : l.length ≤ 1000000000) : Ev (fun k => Z52.f k l a) (decide (a ∈ l)) := by
 have H : ∀ d i : Nat, i + d = l.length → Ev (fun k => Z52.l0 k a l (l.length : Int) (i : Int)) (decide (a ∈ l.drop i)) := by
  intro d
  induction d with
  | zero =>
   intro i h
   refine ev_succ ?_
   have h1 : ¬ ((i : Int) < (l.length : Int)) := by omega
   have e : decide (a ∈ l.drop i) = false := by
    rw [List.drop_of_length_le (by omega)]
    simp
   simp only [Z52.l0, h1, if_false]
   rw [e]
   exact Ev.now _
  | succ d ih =>
   intro i h
   refine ev_succ ?_
   have hi : i < l.length := by omega
   have h1 : (i : Int) < (l.length : Int) := by omega
   have h2 : (0 : Int) ≤ (i : Int) := by omega
   have h3 := w64s i (by omega)
   have e := List.drop_eq_getElem_cons hi
   rw [← rd_get l i hi] at e
   by_cases hr : rd l (i : Int) = a
   ·have e2 : decide (a ∈ l.drop i) = true := by rw [e, hr]; simp
    simp only [Z52.l0, h1, h2, hr, if_true]
    rw [e2]
    exact Ev.now _
   ·have e2 : decide (a ∈ l.drop i) = decide (a ∈ l.drop (i + 1)) := by
     rw [e]
     have : ¬ a = rd l (i : Int) := fun h => hr h.symm
     simp [this]
    simp only [Z52.l0, h1, h2, h3, hr, if_true, if_false]
    rw [e2]
    exact ih (i + 1) (by omega)
 have := H l.length 0 (by omega)
 simpa [Z52.f] using this
theorem in_f (x : Int) (n : Nat) (hn : n ≤ 24) : Z56.f x 0 (wrap64 ((n : Int) - 1)) = some (decide (0 ≤ x ∧ x < (n : Int))) := by
 unfold Z56.f
 rw [w64 (by omega) (by omega)]
 by_cases h : x ≥ 0
 ·rw [if_pos h]
  congr 1
  rw [Bool.eq_iff_iff, decide_eq_true_iff, decide_eq_true_iff]
  omega
 ·rw [if_neg h]
  congr 1
  symm
  rw [decide_eq_false_iff_not]
  omega
theorem spec_permOk (l : List Int) : Ev (fun k => Z50.f k l) (permB l) := by
 unfold Z50.f
 by_cases h24 : (l.length : Int) > 24
 ·simp only [h24, if_true]
  have : permB l = false := by
   unfold permB
   rw [decide_eq_false_iff_not]
   intro h
   have := h.1
   omega
  rw [this]
  exact Ev.now _
 ·simp only [h24, if_false]
  have H : ∀ d i : Nat, i + d = l.length → ∃ b, Ev (fun k => Z50.l0 k l l (l.length : Int) (i : Int)) b ∧ (b = true ↔ okFrom l i) := by
   intro d
   induction d with
   | zero =>
    intro i h
    refine ⟨true, ev_succ ?_, by simp [okFrom_end l i (by omega)]⟩
    have h1 : ¬ ((i : Int) < (l.length : Int)) := by omega
    simp only [Z50.l0, h1, if_false]
    exact Ev.now _
   | succ d ih =>
    intro i h
    have hi : i < l.length := by omega
    have h1 : (i : Int) < (l.length : Int) := by omega
    have h1' : (i : Int) ≤ (l.length : Int) := by omega
    have h2 : (0 : Int) ≤ (i : Int) := by omega
    have h3 := w64s i (by omega)
    have hin := in_f (rd l (i : Int)) l.length (by omega)
    by_cases c1 : 0 ≤ rd l (i : Int) ∧ rd l (i : Int) < (l.length : Int)
    ·have hh := has_ev (l.take i) (rd l (i : Int)) (by rw [List.length_take]; omega)
     by_cases c2 : rd l (i : Int) ∈ l.take i
     ·refine ⟨false, ev_succ ?_, by simpa using okFrom_not hi (fun h => h.2.2 c2)⟩
      simp only [Z50.l0, h1, h1', h2, hin, c1, if_true, Option.bind_some, decide_true, Int.toNat_natCast, and_self]
      refine Ev.bind hh ?_
      simp only [c2, decide_true, if_true]
      exact Ev.now _
     ·obtain ⟨b, i1, i2⟩ := ih (i + 1) (by omega)
      refine ⟨b, ev_succ ?_, by rw [i2]; exact (okFrom_step ⟨c1.1, c1.2, c2⟩).symm⟩
      simp only [Z50.l0, h1, h1', h2, h3, hin, c1, if_true, Option.bind_some, decide_true, Int.toNat_natCast, and_self]
      refine Ev.bind hh ?_
      simp only [c2, decide_false, Bool.false_eq_true, if_false]
      exact i1
    ·refine ⟨false, ev_succ ?_, by simpa using okFrom_not hi (fun h => c1 ⟨h.1, h.2.1⟩)⟩
     simp only [Z50.l0, h1, h2, hin, c1, if_true, if_false, Option.bind_some, decide_false, Bool.false_eq_true]
     exact Ev.now _
  obtain ⟨b, i1, i2⟩ := H l.length 0 (by omega)
  rw [← permB_of (by omega) i2]
  exact i1
theorem rdOf_nat (s : List Bool) (x : Nat) : rdOf false s (x : Int) = s.getD x false := rfl
theorem getD_set (s : List Bool) (x y : Nat) (h : x < s.length) : (s.set x true).getD y false = if x = y then true else s.getD y false := by
 rw [List.getD_eq_getElem?_getD, List.getD_eq_getElem?_getD, List.getElem?_set]
 by_cases e : x = y
 ·subst e
  simp [h]
 ·simp [e]
theorem impl_permOk (l : List Int) : Ev (fun k => Z49.f k l) (permB l) := by
 unfold Z49.f
 by_cases h24 : (l.length : Int) > 24
 ·simp only [h24, if_true]
  have : permB l = false := by
   unfold permB
   rw [decide_eq_false_iff_not]
   intro h
   have := h.1
   omega
  rw [this]
  exact Ev.now _
 ·simp only [h24, if_false]
  have H : ∀ (d i : Nat) (s : List Bool), i + d = l.length → s.length = 24 → (∀ x : Nat, x < 24 → (s.getD x false = true ↔ (x : Int) ∈ l.take i)) → ∃ b, Ev (fun k => Z49.l0 k l s (i : Int)) b ∧ (b = true ↔ okFrom l i) := by
   intro d
   induction d with
   | zero =>
    intro i s h hs hx
    refine ⟨true, ev_succ ?_, by simp [okFrom_end l i (by omega)]⟩
    have h1 : ¬ ((i : Int) < (l.length : Int)) := by omega
    simp only [Z49.l0, h1, if_false]
    exact Ev.now _
   | succ d ih =>
    intro i s h hs hx
    have hi : i < l.length := by omega
    have h1 : (i : Int) < (l.length : Int) := by omega
    have h2 : (0 : Int) ≤ (i : Int) := by omega
    have h3 := w64s i (by omega)
    by_cases c1 : rd l (i : Int) < 0
    ·refine ⟨false, ev_succ ?_, by simpa using okFrom_not hi (fun h => by omega)⟩
     simp only [Z49.l0, h1, h2, c1, if_true]
     exact Ev.now _
    ·by_cases c2 : rd l (i : Int) ≥ (l.length : Int)
     ·refine ⟨false, ev_succ ?_, by simpa using okFrom_not hi (fun h => by omega)⟩
      simp only [Z49.l0, h1, h2, c1, c2, if_true, if_false]
      exact Ev.now _
     ·obtain ⟨x, ex⟩ : ∃ x : Nat, rd l (i : Int) = (x : Int) := ⟨(rd l (i : Int)).toNat, by omega⟩
      have hx24 : x < 24 := by omega
      by_cases c3 : s.getD x false = true
      ·have hm := (hx x hx24).mp c3
       refine ⟨false, ev_succ ?_, by simpa using okFrom_not hi (fun h => h.2.2 (by rw [ex]; exact hm))⟩
       rw [ex] at c1 c2
       simp only [Z49.l0, h1, h2, ex, c1, c2, rdOf_nat, c3, if_true, if_false]
       exact Ev.now _
      ·have hm : (x : Int) ∉ l.take i := fun h => c3 ((hx x hx24).mpr h)
       obtain ⟨b, i1, i2⟩ := ih (i + 1) (s.set x true) (by omega) (by rw [List.length_set]; exact hs) (fun y hy => by
        rw [getD_set s x y (by omega), take_succ l i hi, ex]
        by_cases e : x = y
        ·subst e
         simp
        ·rw [if_neg e, hx y hy]
         have : ¬ (y : Int) = (x : Int) := by omega
         simp [this])
       refine ⟨b, ev_succ ?_, by rw [i2]; exact (okFrom_step ⟨by omega, by omega, by rw [ex]; exact hm⟩).symm⟩
       rw [ex] at c1 c2
       simp only [Z49.l0, h1, h2, h3, ex, c1, c2, rdOf_nat, c3, if_true, if_false, Int.toNat_natCast]
       exact i1
  obtain ⟨b, i1, i2⟩ := H l.length 0 (List.replicate 24 false) (by omega) rfl (fun x hx => by
   have : (List.replicate 24 false).getD x false = false := by
    rw [List.getD_eq_getElem?_getD, List.getElem?_replicate]
    simp [hx]
   rw [this]
   simp)
  rw [← permB_of (by omega) i2]
  exact i1
end Go.Proofs.Ytcggfjpnfodbaaa.M
end
section
/- The tests of surfaces, program and reference, come to one plain test. No conditions. -/
namespace Go.Proofs.Ytcggfjpnfodbaaa.M
set_option linter.unusedVariables false
set_option linter.unusedSimpArgs false
open Go.RowKit Go.Proofs.YtcggfjpnfodbaaaW.PrintWords Go.Proofs.YtcggfjpnfodbaaaW.PrintLast Go.Proofs.YtcggfjpnfodbaaaW.PrintMore Go.Proofs.Ytcggfjpnfodbaaa.A
theorem I_pair (a b : Nat) : ([(a : Int), (b : Int)] : List Int) = I [a, b] := rfl
theorem I_len' (l : List Nat) : ((I l).length : Int) = (l.length : Int) := by rw [I_len]
theorem st1_I (out : List Nat) (x : Nat) : I (st1 out x) = if (x : Int) ∈ I out then I out else I out ++ [(x : Int)] := by
 unfold st1
 by_cases h : x ∈ out
 ·rw [if_pos h, if_pos (mem_I.mpr h)]
 ·rw [if_neg h, if_neg (fun k => h (mem_I.mp k)), I_snoc]
theorem reach_one (p q out pr : List Nat) (a : Nat) (j : Nat) (hj : j < pr.length) (hp : pr.length ≤ 2) (hl : out.length ≤ 1000) (r : List Int)
  (H : Ev (fun k => Z40.l1 k (I p) (I q) (I (st1 out (g pr j))) (a : Int) (I pr) (pr.length : Int) ((j + 1 : Nat) : Int)) r) :
  Ev (fun k => Z40.l1 k (I p) (I q) (I out) (a : Int) (I pr) (pr.length : Int) (j : Int)) r := by
 refine ev_succ ?_
 have h1 : (j : Int) < (pr.length : Int) := by omega
 have h2 : (0 : Int) ≤ (j : Int) := by omega
 have h3 := w64s j (by omega)
 have h4 : (I out).length < 17592186044416 := by rw [I_len]; omega
 have hh := has_ev (I out) ((g pr j : Nat) : Int) (by rw [I_len]; omega)
 simp only [Z40.l1, h1, h2, h3, h4, rdI, I_len', if_true]
 refine Ev.bind hh ?_
 rw [st1_I] at H
 by_cases hm : ((g pr j : Nat) : Int) ∈ I out
 ·rw [if_pos hm] at H
  simp only [hm, decide_true, if_true]
  exact H
 ·rw [if_neg hm] at H
  simp only [hm, decide_false, Bool.false_eq_true, if_false]
  exact H
theorem reach_loop {p q : List Nat} (hp : IsP p) (hq : IsP q) (hl : q.length = p.length) (h24 : p.length ≤ 24) (f : Nat) : ∀ (a : Nat) (out : List Nat), RInv p.length out → a ≤ out.length → p.length < f + a →
  Ev (fun k => Z40.l0 k (I p) (I q) (I out) (a : Int)) (I (bfs p q f a out)) := by
 induction f with
 | zero =>
  intro a out hr ha hf
  have := hr.le
  omega
 | succ f ih =>
  intro a out hr ha hf
  have hle := hr.le
  refine ev_succ ?_
  by_cases h : a < out.length
  ·have h1 : (a : Int) < (out.length : Int) := by omega
   have h2 : (0 : Int) ≤ (a : Int) := by omega
   have hx := hr.g h
   have h3 : ((g out a : Nat) : Int) < (p.length : Int) := by omega
   have h4 : (0 : Int) ≤ ((g out a : Nat) : Int) := by omega
   have h5 : ((g out a : Nat) : Int) < (q.length : Int) := by omega
   have h6 := w64s a (by omega)
   simp only [Z40.l0, h1, h2, h3, h4, h5, rdI, I_len', if_true, Option.bind_some, I_pair]
   have r1 := hr.st (g_lt hp hx)
   have r2 := r1.st (x := g q (g out a)) (by have := g_lt hq (i := g out a) (by omega); omega)
   have hb : bfs p q (f + 1) a out = bfs p q f (a + 1) (st1 (st1 out (g p (g out a))) (g q (g out a))) := by
    rw [bfs, if_pos h]
   rw [hb]
   have i1 := ih (a + 1) _ r2 (by have := st1_len out (g p (g out a)); have := st1_len (st1 out (g p (g out a))) (g q (g out a)); omega) (by omega)
   refine reach_one p q out [g p (g out a), g q (g out a)] a 0 (by simp) (by simp) (by omega) _ ?_
   refine reach_one p q _ [g p (g out a), g q (g out a)] a 1 (by simp) (by simp) (by have := r1.le; simp only [g, List.getD_cons_zero] at this ⊢; omega) _ ?_
   refine ev_succ ?_
   have h7 : ¬ (((1 + 1 : Nat) : Int) < (([g p (g out a), g q (g out a)] : List Nat).length : Int)) := by simp
   simp only [Z40.l1, h7, h6, if_false]
   exact i1
  ·have h1 : ¬ ((a : Int) < (out.length : Int)) := by omega
   have hb : bfs p q (f + 1) a out = out := by rw [bfs, if_neg h]
   rw [hb]
   simp only [Z40.l0, h1, I_len', if_false]
   exact Ev.now _
theorem reach_ev {p q : List Nat} (hp : IsP p) (hq : IsP q) (hl : q.length = p.length) (h24 : p.length ≤ 24) (s : Nat) (hs : s < p.length) : Ev (fun k => Z40.f k (I p) (I q) (s : Int)) (I (reach p q s)) := by
 unfold Z40.f reach
 exact reach_loop hp hq hl h24 (p.length + 1) 0 [s] ⟨by simp, by simpa using hs⟩ (by simp) (by omega)
theorem len_ne_false {r u : List Int} (h : r.length ≠ u.length) : surfB r u = false := by
 unfold surfB
 simp [h]
theorem surfB_mk {r u : List Int} (h1 : permB r = true) (h2 : permB u = true) (h3 : r.length = u.length) (h4 : 0 < r.length) : surfB r u = ((reach (N r) (N u) 0).length == r.length) := by
 unfold surfB
 simp [h1, h2, h3, h4]
 intro _
 omega
theorem spec_trans (r u : List Int) : Ev (fun k => Z16.f k r u) (surfB r u) := by
 unfold Z16.f
 refine Ev.bind (spec_permOk r) ?_
 by_cases h1 : permB r = true
 ·simp only [h1, if_true]
  refine Ev.bind (spec_permOk u) ?_
  by_cases h2 : permB u = true
  ·simp only [h2, if_true]
   by_cases h3 : (r.length : Int) = (u.length : Int)
   ·have h3' : r.length = u.length := by omega
    by_cases h4 : (r.length : Int) > 0
    ·have h4' : 0 < r.length := by omega
     rw [surfB_mk h1 h2 h3' h4']
     obtain ⟨p, rfl, a1, a2⟩ := PI_nat (of_decide_eq_true h1)
     obtain ⟨q, rfl, b1, b2⟩ := PI_nat (of_decide_eq_true h2)
     rw [I_len, I_len] at h3'
     rw [I_len] at h4'
     have := reach_ev a1 b1 h3'.symm a2 0 h4'
     simp only [h3, h4, if_true]
     rw [h3] at h4
     simp only [h4, if_true]
     refine Ev.bind this ?_
     rw [N_I, N_I]
     have e : (((I (reach p q 0)).length : Int) == ((I q).length : Int)) = ((reach p q 0).length == (I p).length) := by
      rw [I_len, I_len, I_len, Bool.eq_iff_iff, beq_iff_eq, beq_iff_eq]
      omega
     rw [← h3] at e
     simp only [h3] at e
     rw [← e]
     exact Ev.now _
    ·simp only [h3, if_true]
     rw [h3] at h4
     simp only [h4, if_false]
     have : surfB r u = false := by
      unfold surfB
      have : ¬ 0 < r.length := by omega
      simp [this]
     rw [this]
     exact Ev.now _
   ·simp only [h3, if_false]
    rw [len_ne_false (by omega)]
    exact Ev.now _
  ·have h2' := Bool.eq_false_iff.mpr h2
   simp only [h2', Bool.false_eq_true, if_false]
   have : surfB r u = false := by unfold surfB; simp [h2']
   rw [this]
   exact Ev.now _
 ·have h1' := Bool.eq_false_iff.mpr h1
  simp only [h1', Bool.false_eq_true, if_false]
  have : surfB r u = false := by unfold surfB; simp [h1']
  rw [this]
  exact Ev.now _
theorem spec_surf (r u : List Int) : Ev (fun k => Z31.f k r u) (surfB r u) := by
 unfold Z31.f
 exact Ev.bind (spec_trans r u) (Ev.now _)
def Marks (n : Nat) (s : List Bool) (out : List Nat) : Prop := s.length = n ∧ ∀ x, x < n → (s.getD x false = true ↔ x ∈ out)
theorem Marks.add {n : Nat} {s : List Bool} {out : List Nat} {x : Nat} (h : Marks n s out) (hx : x < n) : Marks n (s.set x true) (out ++ [x]) := by
 refine ⟨by rw [List.length_set]; exact h.1, fun y hy => ?_⟩
 rw [getD_set s x y (by rw [h.1]; exact hx)]
 by_cases e : x = y
 ·subst e
  simp
 ·rw [if_neg e, h.2 y hy]
  have : ¬ y = x := fun k => e k.symm
  simp [this]
theorem trans_one (p q out pr : List Nat) (s : List Bool) (a : Nat) (j : Nat) (hj : j < pr.length) (hp : pr.length ≤ 2) (hl : out.length ≤ 1000) (hm : Marks p.length s out) (hx : g pr j < p.length) (r : Bool)
  (H : ∀ s', Marks p.length s' (st1 out (g pr j)) → Ev (fun k => Z14.l1 k (I p) (I q) s' (I (st1 out (g pr j))) (a : Int) (I pr) (pr.length : Int) ((j + 1 : Nat) : Int)) r) :
  Ev (fun k => Z14.l1 k (I p) (I q) s (I out) (a : Int) (I pr) (pr.length : Int) (j : Int)) r := by
 refine ev_succ ?_
 have h1 : (j : Int) < (pr.length : Int) := by omega
 have h2 : (0 : Int) ≤ (j : Int) := by omega
 have h3 := w64s j (by omega)
 have h4 : (I out).length < 17592186044416 := by rw [I_len]; omega
 have h5 : (0 : Int) ≤ ((g pr j : Nat) : Int) := by omega
 have h6 : ((g pr j : Nat) : Int) < (s.length : Int) := by rw [hm.1]; omega
 simp only [Z14.l1, h1, h2, h3, h4, h5, h6, rdI, I_len', rdOf_nat, if_true, Int.toNat_natCast]
 by_cases hin : g pr j ∈ out
 ·have hs := (hm.2 _ hx).mpr hin
  have e : st1 out (g pr j) = out := by unfold st1; rw [if_pos hin]
  have := H s (by rw [e]; exact hm)
  rw [e] at this
  simp only [hs, if_true]
  exact this
 ·have hs : s.getD (g pr j) false = false := Bool.eq_false_iff.mpr (fun h => hin ((hm.2 _ hx).mp h))
  have e : st1 out (g pr j) = out ++ [g pr j] := by unfold st1; rw [if_neg hin]
  have := H (s.set (g pr j) true) (by rw [e]; exact hm.add hx)
  rw [e, ← I_snoc] at this
  simp only [hs, Bool.false_eq_true, if_false]
  exact this
theorem trans_loop {p q : List Nat} (hp : IsP p) (hq : IsP q) (hl : q.length = p.length) (h24 : p.length ≤ 24) (f : Nat) : ∀ (a : Nat) (out : List Nat) (s : List Bool), RInv p.length out → Marks p.length s out → a ≤ out.length → p.length < f + a →
  Ev (fun k => Z14.l0 k (I p) (I q) s (I out) (a : Int)) ((bfs p q f a out).length == p.length) := by
 induction f with
 | zero =>
  intro a out s hr hm ha hf
  have := hr.le
  omega
 | succ f ih =>
  intro a out s hr hm ha hf
  have hle := hr.le
  refine ev_succ ?_
  by_cases h : a < out.length
  ·have h1 : (a : Int) < (out.length : Int) := by omega
   have h2 : (0 : Int) ≤ (a : Int) := by omega
   have hx := hr.g h
   have h3 : ((g out a : Nat) : Int) < (p.length : Int) := by omega
   have h4 : (0 : Int) ≤ ((g out a : Nat) : Int) := by omega
   have h5 : ((g out a : Nat) : Int) < (q.length : Int) := by omega
   have h6 := w64s a (by omega)
   simp only [Z14.l0, h1, h2, h3, h4, h5, rdI, I_len', if_true, Option.bind_some, I_pair]
   have hg1 := g_lt hp hx
   have hg2 : g q (g out a) < p.length := by have := g_lt hq (i := g out a) (by omega); omega
   have r1 := hr.st hg1
   have r2 := r1.st hg2
   have hb : bfs p q (f + 1) a out = bfs p q f (a + 1) (st1 (st1 out (g p (g out a))) (g q (g out a))) := by
    rw [bfs, if_pos h]
   rw [hb]
   refine trans_one p q out [g p (g out a), g q (g out a)] s a 0 (by simp) (by simp) (by omega) hm hg1 _ (fun s1 hm1 => ?_)
   refine trans_one p q _ [g p (g out a), g q (g out a)] s1 a 1 (by simp) (by simp) (by have := r1.le; simp only [g, List.getD_cons_zero] at this ⊢; omega) hm1 hg2 _ (fun s2 hm2 => ?_)
   refine ev_succ ?_
   have h7 : ¬ (((1 + 1 : Nat) : Int) < (([g p (g out a), g q (g out a)] : List Nat).length : Int)) := by simp
   simp only [Z14.l1, h7, h6, if_false]
   exact ih (a + 1) _ s2 r2 hm2 (Nat.le_trans (by omega : a + 1 ≤ out.length) (Nat.le_trans (st1_len _ _) (st1_len _ _))) (by omega)
  ·have h1 : ¬ ((a : Int) < (out.length : Int)) := by omega
   have hb : bfs p q (f + 1) a out = out := by rw [bfs, if_neg h]
   rw [hb]
   simp only [Z14.l0, h1, I_len', if_false]
   have e : ((out.length : Int) == (p.length : Int)) = (out.length == p.length) := by
    rw [Bool.eq_iff_iff, beq_iff_eq, beq_iff_eq]
    omega
   rw [e]
   exact Ev.now _
theorem j0_true (r u : List Int) : Ev (fun k => Z14.j0 k r u true) false := by
 refine ev_succ ?_
 simp only [Z14.j0, if_true]
 exact Ev.now _
theorem impl_trans (r u : List Int) : Ev (fun k => Z14.f k r u) (surfB r u) := by
 unfold Z14.f
 refine Ev.bind (impl_permOk r) ?_
 by_cases h1 : permB r = true
 ·simp only [h1, if_true]
  refine Ev.bind (impl_permOk u) ?_
  by_cases h2 : permB u = true
  ·simp only [h2, if_true]
   by_cases h3 : (r.length : Int) = (u.length : Int)
   ·have h3' : r.length = u.length := by omega
    simp only [h3, if_true]
    by_cases h4 : 0 < r.length
    ·rw [surfB_mk h1 h2 h3' h4]
     obtain ⟨p, rfl, a1, a2⟩ := PI_nat (of_decide_eq_true h1)
     obtain ⟨q, rfl, b1, b2⟩ := PI_nat (of_decide_eq_true h2)
     rw [I_len, I_len] at h3'
     rw [I_len] at h4
     refine ev_succ ?_
     have e0 : ((q.length : Int) == 0) = false := by rw [beq_eq_false_iff_ne]; omega
     have e1 : (0 : Int) ≤ (p.length : Int) := by omega
     have e2 : ((p.length : Int)).toNat ≤ 281474976710656 := by omega
     have e3 : (0 : Int) < ((List.replicate p.length false).length : Int) := by rw [List.length_replicate]; omega
     simp only [Z14.j0, e0, I_len', e1, e2, Bool.false_eq_true, if_true, if_false, Option.bind_some, Int.toNat_natCast, e3]
     simp only [Int.toNat_natCast] at e2
     simp only [e2, if_true]
     rw [N_I, N_I, I_len]
     refine trans_loop a1 b1 h3'.symm a2 (p.length + 1) 0 [0] _ ⟨by simp, by simpa using h4⟩ ?_ (by simp) (by omega)
     refine ⟨by simp, fun x hx => ?_⟩
     have : (0 : Int).toNat = 0 := rfl
     rw [this, getD_set _ 0 x (by simp; omega)]
     by_cases e : 0 = x
     ·subst e
      simp
     ·rw [if_neg e]
      have h0 : ¬ x = 0 := fun h => e h.symm
      have : (List.replicate p.length false).getD x false = false := by
       rw [List.getD_eq_getElem?_getD, List.getElem?_replicate]
       simp [hx]
      rw [this]
      simp [h0]
    ·have e0 : ((u.length : Int) == 0) = true := by rw [beq_iff_eq]; omega
     have : surfB r u = false := by unfold surfB; simp [h4]
     rw [this]
     simp only [e0]
     exact j0_true r u
   ·simp only [h3, if_false]
    rw [len_ne_false (by omega)]
    exact j0_true r u
  ·have h2' := Bool.eq_false_iff.mpr h2
   simp only [h2', Bool.false_eq_true, if_false]
   have : surfB r u = false := by unfold surfB; simp [h2']
   rw [this]
   exact j0_true r u
 ·have h1' := Bool.eq_false_iff.mpr h1
  simp only [h1', Bool.false_eq_true, if_false]
  have : surfB r u = false := by unfold surfB; simp [h1']
  rw [this]
  exact j0_true r u
theorem impl_surf (r u : List Int) : Ev (fun k => Z29.f k r u) (surfB r u) := by
 unfold Z29.f
 exact Ev.bind (impl_trans r u) (Ev.now _)
end Go.Proofs.Ytcggfjpnfodbaaa.M
end
section
/- What every law does with its arguments; inverses. No conditions. -/
namespace Go.Proofs.Ytcggfjpnfodbaaa.M
set_option linter.unusedVariables false
set_option linter.unusedSimpArgs false
open Go.RowKit Go.Proofs.YtcggfjpnfodbaaaW.PrintWords Go.Proofs.YtcggfjpnfodbaaaW.PrintLast Go.Proofs.YtcggfjpnfodbaaaW.PrintMore Go.Proofs.Ytcggfjpnfodbaaa.A
theorem rd_set {l : List Int} {i j : Nat} {x : Int} (h : i < l.length) : rd (l.set i x) (j : Int) = if i = j then x else rd l (j : Int) := by
 unfold rd
 simp only [Int.toNat_natCast]
 rw [List.getD_eq_getElem?_getD, List.getD_eq_getElem?_getD, List.getElem?_set]
 by_cases e : i = j
 ·subst e
  simp [h]
 ·simp [e]
theorem ext_rd {a b : List Int} (hl : a.length = b.length) (h : ∀ i : Nat, i < a.length → rd a (i : Int) = rd b (i : Int)) : a = b := by
 apply List.ext_getElem hl
 intro i h1 h2
 rw [← rd_get a i h1, ← rd_get b i h2]
 exact h i h1
theorem inv_of {p c : List Nat} (hp : IsP p) (hc : c.length = p.length) (h : ∀ j, j < p.length → g c (g p j) = j) : c = inv p := by
 refine ext_g (by rw [inv_len, hc]) (fun x hx => ?_)
 rw [hc] at hx
 rw [g_inv hx]
 have := h (ix p x) (ix_lt hp hx)
 rw [g_ix hp hx] at this
 exact this
theorem inv_step {p c : List Nat} (hp : IsP p) {i : Nat} (hi : i < p.length) (hc : c.length = p.length) (h : ∀ j, j < i → g c (g p j) = j) : ∀ j, j < i + 1 → g (c.set (g p i) i) (g p j) = j := by
 intro j hj
 rw [g_set (by rw [hc]; exact g_lt hp hi)]
 by_cases e : j = i
 ·subst e
  simp
 ·rw [if_neg (fun k => e (g_inj hp (by omega) hi k.symm))]
  exact h j (by omega)
theorem impl_inv {p : List Nat} (hp : IsP p) (h24 : p.length ≤ 24) : Ev (fun k => Z18.f k (I p)) (I (inv p)) := by
 unfold Z18.f
 have H : ∀ (d i : Nat) (c : List Nat), i + d = p.length → c.length = p.length → (∀ j, j < i → g c (g p j) = j) → Ev (fun k => Z18.l0 k (I c) (I p) (p.length : Int) (i : Int)) (I (inv p)) := by
  intro d
  induction d with
  | zero =>
   intro i c h hc hx
   refine ev_succ ?_
   have h1 : ¬ ((i : Int) < (p.length : Int)) := by omega
   rw [← inv_of hp hc (fun j hj => hx j (by omega))]
   simp only [Z18.l0, h1, if_false]
   exact Ev.now _
  | succ d ih =>
   intro i c h hc hx
   refine ev_succ ?_
   have hi : i < p.length := by omega
   have h1 : (i : Int) < (p.length : Int) := by omega
   have h2 : (0 : Int) ≤ (i : Int) := by omega
   have h3 := w64s i (by omega)
   have h4 : (0 : Int) ≤ ((g p i : Nat) : Int) := by omega
   have h5 : ((g p i : Nat) : Int) < (c.length : Int) := by have := g_lt hp hi; omega
   simp only [Z18.l0, h1, h2, h3, h4, h5, rdI, I_len', I_set, if_true, Int.toNat_natCast]
   exact ih (i + 1) _ (by omega) (by rw [List.length_set]; exact hc) (inv_step hp hi hc hx)
 refine Ev.bind (impl_permOk (I p)) ?_
 have h0 : permB (I p) = true := permB_I.mpr ⟨hp, h24⟩
 have h1 : (0 : Int) ≤ (p.length : Int) := by omega
 have h2 : p.length ≤ 35184372088832 := by omega
 simp only [h0, I_len', h1, h2, if_true, Int.toNat_natCast]
 have := H p.length 0 (List.replicate p.length 0) (by omega) (by simp) (fun j hj => by omega)
 rw [I_rep] at this
 exact this
end Go.Proofs.Ytcggfjpnfodbaaa.M
end
section
/- Names from a square, and renaming: the program and the reference act alike. No conditions. -/
namespace Go.Proofs.Ytcggfjpnfodbaaa.M
set_option linter.unusedVariables false
set_option linter.unusedSimpArgs false
open Go.RowKit Go.Proofs.YtcggfjpnfodbaaaW.PrintWords Go.Proofs.YtcggfjpnfodbaaaW.PrintLast Go.Proofs.YtcggfjpnfodbaaaW.PrintMore Go.Proofs.Ytcggfjpnfodbaaa.A
theorem set_mid5 {α : Type} (p : List α) (x y : α) (xs : List α) : (p ++ x :: xs).set p.length y = p ++ y :: xs := by
 induction p with
 | nil => rfl
 | cons a p ih => simp [ih]
theorem isP_reach {r u : List Nat} (hs : Sf r u) {s : Nat} (h : s < r.length) : IsP (reach r u s) ∧ (reach r u s).length = r.length := by
 obtain ⟨h1, h2⟩ := reach_full hs h
 have l1 := h1.le
 have l2 := nodup_sub_len5 (List.range r.length) (reach r u s) List.nodup_range (fun x hx => h2 x (List.mem_range.mp hx))
 rw [List.length_range] at l2
 have hl : (reach r u s).length = r.length := by omega
 exact ⟨⟨fun x hx => by rw [hl]; exact h1.lt x hx, h1.nd⟩, hl⟩
def nm (r u : List Nat) (s : Nat) : List Nat := inv (reach r u s)
theorem isP_nm {r u : List Nat} (hs : Sf r u) {s : Nat} (h : s < r.length) : IsP (nm r u s) ∧ (nm r u s).length = r.length := by
 obtain ⟨h1, h2⟩ := isP_reach hs h
 exact ⟨isP_inv h1, by unfold nm; rw [inv_len, h2]⟩
theorem ren_of {p q c : List Nat} (hq : IsP q) (hl : q.length = p.length) (hc : c.length = p.length) (h : ∀ j, j < p.length → g c (g q j) = g q (g p j)) : c = ren p q := by
 refine ext_g (by rw [ren_len, hc]) (fun x hx => ?_)
 rw [hc] at hx
 rw [g_ren hx]
 have hx' : ix q x < q.length := ix_lt hq (by omega)
 have := h (ix q x) (by omega)
 rw [g_ix hq (by omega)] at this
 exact this
theorem ren_step {p q c : List Nat} (hq : IsP q) (hl : q.length = p.length) {i : Nat} (hi : i < p.length) (hc : c.length = p.length) (h : ∀ j, j < i → g c (g q j) = g q (g p j)) : ∀ j, j < i + 1 → g (c.set (g q i) (g q (g p i))) (g q j) = g q (g p j) := by
 intro j hj
 have hlt : g q i < c.length := by rw [hc, ← hl]; exact g_lt hq (by omega)
 rw [g_set hlt]
 by_cases e : j = i
 ·subst e
  simp
 ·rw [if_neg (fun k => e (g_inj hq (by omega) (by omega) k.symm))]
  exact h j (by omega)
theorem impl_ren {p q : List Nat} (hp : IsP p) (hq : IsP q) (hl : q.length = p.length) (h24 : p.length ≤ 24) : Ev (fun k => Z26.f k (I p) (I q)) (I (ren p q)) := by
 unfold Z26.f
 have H : ∀ (d i : Nat) (c : List Nat), i + d = p.length → c.length = p.length → (∀ j, j < i → g c (g q j) = g q (g p j)) → Ev (fun k => Z26.l0 k (I q) (I c) (I p) (p.length : Int) (i : Int)) (I (ren p q)) := by
  intro d
  induction d with
  | zero =>
   intro i c h hc hx
   refine ev_succ ?_
   have h1 : ¬ ((i : Int) < (p.length : Int)) := by omega
   rw [← ren_of hq hl hc (fun j hj => hx j (by omega))]
   simp only [Z26.l0, h1, if_false]
   exact Ev.now _
  | succ d ih =>
   intro i c h hc hx
   refine ev_succ ?_
   have hi : i < p.length := by omega
   have k1 := g_lt hp hi
   have k2 := g_lt hq (i := i) (by omega)
   have h1 : (i : Int) < (p.length : Int) := by omega
   have h2 : (0 : Int) ≤ (i : Int) := by omega
   have h4 : (i : Int) < (q.length : Int) := by omega
   have h5 : (0 : Int) ≤ ((g p i : Nat) : Int) := by omega
   have h6 : ((g p i : Nat) : Int) < (q.length : Int) := by omega
   have h7 : (0 : Int) ≤ ((g q i : Nat) : Int) := by omega
   have h8 : ((g q i : Nat) : Int) < (c.length : Int) := by omega
   have h3 := w64s i (by omega)
   simp only [Z26.l0, h1, h2, h3, h4, h5, h6, h7, h8, rdI, I_len', I_set, if_true, Int.toNat_natCast]
   exact ih (i + 1) _ (by omega) (by rw [List.length_set]; exact hc) (ren_step hq hl hi hc hx)
 have b1 : permB (I p) = true := permB_I.mpr ⟨hp, h24⟩
 have b2 : permB (I q) = true := permB_I.mpr ⟨hq, by omega⟩
 refine Ev.bind (impl_permOk _) ?_
 simp only [b1, if_true]
 refine Ev.bind (impl_permOk _) ?_
 have e : ((p.length : Int) != (q.length : Int)) = false := by rw [bne_eq_false_iff_eq]; omega
 simp only [b2, I_len', e, if_true]
 refine ev_succ ?_
 have h1 : (0 : Int) ≤ (p.length : Int) := by omega
 have h2 : p.length ≤ 35184372088832 := by omega
 simp only [Z26.j0, I_len', h1, h2, Bool.false_eq_true, if_false, if_true, Int.toNat_natCast]
 have := H p.length 0 (List.replicate p.length 0) (by omega) (by simp) (fun j hj => by omega)
 rw [I_rep] at this
 exact this
def rnS (r u q : List Nat) : List Nat × List Nat := (ren r q, ren u q)
theorem impl_renS {r u q : List Nat} (hs : Sf r u) (hq : IsP q) (hl : q.length = r.length) : Ev (fun k => Z9.f k (I r) (I u) (I q)) (I (rnS r u q).1, I (rnS r u q).2, true) := by
 unfold Z9.f
 have h0 := surfB_I.mpr hs
 have hle := hs.le
 have b2 : permB (I q) = true := permB_I.mpr ⟨hq, by omega⟩
 refine Ev.bind (impl_surf _ _) ?_
 simp only [h0, if_true]
 refine Ev.bind (impl_permOk _) ?_
 have e : ((q.length : Int) != (r.length : Int)) = false := by rw [bne_eq_false_iff_eq]; omega
 simp only [b2, I_len', e, if_true]
 refine ev_succ ?_
 simp only [Z9.j0, Bool.false_eq_true, if_false]
 exact Ev.bind (impl_ren hs.pr hq hl hs.le) (Ev.bind (impl_ren hs.pu hq (by rw [hl, hs.eq]) (by rw [hs.eq]; exact hs.le)) (Ev.now _))
def nmP (n : Nat) (out : List Nat) : List Int := (List.range n).map (fun x => if x ∈ out then ((out.idxOf x : Nat) : Int) else -1)
theorem nmP_len (n : Nat) (out : List Nat) : (nmP n out).length = n := by simp [nmP]
theorem rd_nmP {n : Nat} {out : List Nat} {x : Nat} (h : x < n) : rd (nmP n out) (x : Int) = if x ∈ out then ((out.idxOf x : Nat) : Int) else -1 := by
 rw [rd_get _ _ (by rw [nmP_len]; exact h)]
 simp [nmP]
theorem nmP_add {n : Nat} {out : List Nat} {x : Nat} (h : x < n) (hn : x ∉ out) : (nmP n out).set x (out.length : Int) = nmP n (out ++ [x]) := by
 refine ext_rd (by rw [List.length_set, nmP_len, nmP_len]) (fun i hi => ?_)
 rw [List.length_set, nmP_len] at hi
 rw [rd_set (by rw [nmP_len]; exact h), rd_nmP hi, rd_nmP hi]
 by_cases e : x = i
 ·subst e
  have : x ∈ out ++ [x] := by simp
  rw [if_pos rfl, if_pos this, List.idxOf_append, if_neg hn]
  simp
 ·rw [if_neg e]
  by_cases hm : i ∈ out
  ·have : i ∈ out ++ [x] := by simp [hm]
   rw [if_pos hm, if_pos this, List.idxOf_append, if_pos hm]
  ·have : i ∉ out ++ [x] := by simp [hm]; omega
   rw [if_neg hm, if_neg this]
theorem nmP_full {n : Nat} {out : List Nat} (hl : out.length = n) (h : ∀ x, x < n → x ∈ out) : nmP n out = I (inv out) := by
 refine ext_rd (by rw [nmP_len, I_len, inv_len, hl]) (fun i hi => ?_)
 rw [nmP_len] at hi
 rw [rd_nmP hi, if_pos (h i hi), rdI, g_inv (by omega)]
 rfl
theorem names_one {p q : List Nat} {out pr : List Nat} (a j : Nat) (hj : j < pr.length) (hpr : pr.length ≤ 2) (hl : out.length ≤ 1000) (hx : g pr j < p.length) (res : List Int)
  (H : Ev (fun k => Z28.l2 k (nmP p.length (st1 out (g pr j))) (I (st1 out (g pr j))) (a : Int) (I pr) (pr.length : Int) ((j + 1 : Nat) : Int) (I p) (I q)) res) :
  Ev (fun k => Z28.l2 k (nmP p.length out) (I out) (a : Int) (I pr) (pr.length : Int) (j : Int) (I p) (I q)) res := by
 refine ev_succ ?_
 have h1 : (j : Int) < (pr.length : Int) := by omega
 have h2 : (0 : Int) ≤ (j : Int) := by omega
 have h4 : (I out).length < 17592186044416 := by rw [I_len]; omega
 have h5 : (0 : Int) ≤ ((g pr j : Nat) : Int) := by omega
 have h6 : ((g pr j : Nat) : Int) < ((nmP p.length out).length : Int) := by rw [nmP_len]; omega
 have h7 : rd (nmP p.length out) ((g pr j : Nat) : Int) = if g pr j ∈ out then ((out.idxOf (g pr j) : Nat) : Int) else -1 := rd_nmP hx
 have h3 := w64s j (by omega)
 by_cases hin : g pr j ∈ out
 ·have e : st1 out (g pr j) = out := by unfold st1; rw [if_pos hin]
  rw [e] at H
  rw [if_pos hin] at h7
  have h8 : ¬ (((out.idxOf (g pr j) : Nat) : Int) < 0) := by omega
  simp only [Z28.l2, h1, h2, h3, h5, h6, h7, h8, rdI, I_len', if_true, if_false]
  exact H
 ·have e : st1 out (g pr j) = out ++ [g pr j] := by unfold st1; rw [if_neg hin]
  rw [e, ← nmP_add hx hin, ← I_snoc] at H
  rw [if_neg hin] at h7
  have h8 : (-1 : Int) < 0 := by omega
  simp only [Z28.l2, h1, h2, h3, h4, h5, h6, h7, h8, rdI, I_len', if_true, Int.toNat_natCast]
  exact H
theorem names_loop {p q : List Nat} (hp : IsP p) (hq : IsP q) (hl : q.length = p.length) (h24 : p.length ≤ 24) (f : Nat) : ∀ (a : Nat) (out : List Nat), RInv p.length out → a ≤ out.length → p.length < f + a →
  Ev (fun k => Z28.l1 k (nmP p.length out) (I out) (a : Int) (I p) (I q)) (nmP p.length (bfs p q f a out)) := by
 induction f with
 | zero =>
  intro a out hr ha hf
  have := hr.le
  omega
 | succ f ih =>
  intro a out hr ha hf
  have hle := hr.le
  refine ev_succ ?_
  by_cases h : a < out.length
  ·have hx := hr.g h
   have hg1 := g_lt hp hx
   have hg2 : g q (g out a) < p.length := by have := g_lt hq (i := g out a) (by omega); omega
   have r1 := hr.st hg1
   have r2 := r1.st hg2
   have h1 : (a : Int) < (out.length : Int) := by omega
   have h2 : (0 : Int) ≤ (a : Int) := by omega
   have h3 : ((g out a : Nat) : Int) < (p.length : Int) := by omega
   have h4 : (0 : Int) ≤ ((g out a : Nat) : Int) := by omega
   have h5 : ((g out a : Nat) : Int) < (q.length : Int) := by omega
   have hb : bfs p q (f + 1) a out = bfs p q f (a + 1) (st1 (st1 out (g p (g out a))) (g q (g out a))) := by
    rw [bfs, if_pos h]
   rw [hb]
   have key := ih (a + 1) _ r2 (Nat.le_trans (by omega : a + 1 ≤ out.length) (Nat.le_trans (st1_len _ _) (st1_len _ _))) (by omega)
   have hq1 : a ≤ 9000000000000000000 := by omega
   have l1 := r1.le
   simp only [Z28.l1, h1, h2, h3, h4, h5, rdI, I_len', if_true, Option.bind_some, I_pair]
   refine names_one (q := q) a 0 (by simp) (by simp) (by omega) hg1 _ ?_
   refine names_one (q := q) a 1 (by simp) (by simp) (by simp only [g, List.getD_cons_zero] at l1 ⊢; omega) hg2 _ ?_
   refine ev_succ ?_
   have h7 : ¬ (((1 + 1 : Nat) : Int) < (([g p (g out a), g q (g out a)] : List Nat).length : Int)) := by simp
   have h6 := w64s a hq1
   simp only [Z28.l2, h7, h6, if_false]
   exact key
  ·have h1 : ¬ ((a : Int) < (out.length : Int)) := by omega
   have hb : bfs p q (f + 1) a out = out := by rw [bfs, if_neg h]
   rw [hb]
   simp only [Z28.l1, h1, I_len', if_false]
   exact Ev.now _
theorem impl_names {r u : List Nat} (hs : Sf r u) {s : Nat} (h : s < r.length) : Ev (fun k => Z28.f k (I r) (I u) (s : Int)) (I (nm r u s)) := by
 have hle := hs.le
 have h0 := surfB_I.mpr hs
 obtain ⟨k1, k2⟩ := reach_full hs h
 obtain ⟨_, k3⟩ := isP_reach hs h
 have fin := names_loop hs.pr hs.pu hs.eq hs.le (r.length + 1) 0 [s] ⟨by simp, by simpa using h⟩ (by simp) (by omega)
 have e1 : bfs r u (r.length + 1) 0 [s] = reach r u s := rfl
 rw [e1, nmP_full k3 k2] at fin
 have H : ∀ d i : Nat, i + d = r.length → Ev (fun k => Z28.l0 k (s : Int) (List.replicate i (-1) ++ List.replicate d 0) (r.length : Int) (i : Int) (I r) (I u)) (I (nm r u s)) := by
  intro d
  induction d with
  | zero =>
   intro i hi
   obtain rfl : i = r.length := by omega
   refine ev_succ ?_
   have c1 : ¬ ((r.length : Int) < (r.length : Int)) := by omega
   have c2 : (0 : Int) ≤ (s : Int) := by omega
   have c3 : (s : Int) < (((List.replicate r.length (-1) ++ List.replicate 0 0 : List Int)).length : Int) := by simp; omega
   have c4 : (List.replicate r.length (-1) ++ List.replicate 0 0 : List Int).set ((s : Int)).toNat 0 = nmP r.length [s] := by
    refine ext_rd (by rw [List.length_set, nmP_len]; simp) (fun i hi => ?_)
    rw [List.length_set] at hi
    have hi' : i < r.length := by simpa using hi
    rw [Int.toNat_natCast, rd_set (by simp; exact h), rd_nmP hi']
    by_cases e : s = i
    ·subst e
     simp
    ·rw [if_neg e]
     have : i ∉ [s] := by simp; omega
     rw [if_neg this, rd_get _ _ hi]
     simp
   simp only [Z28.l0, c1, c2, c3, c4, if_true, if_false]
   exact fin
  | succ d ih =>
   intro i hi
   refine ev_succ ?_
   have c1 : (i : Int) < (r.length : Int) := by omega
   have c2 : (0 : Int) ≤ (i : Int) := by omega
   have c3 : (i : Int) < (((List.replicate i (-1) ++ List.replicate (d + 1) 0 : List Int)).length : Int) := by simp; omega
   have c4 : (List.replicate i (-1) ++ List.replicate (d + 1) 0 : List Int).set ((i : Int)).toNat (-1) = List.replicate (i + 1) (-1) ++ List.replicate d 0 := by
    have hm := set_mid5 (List.replicate i (-1 : Int)) 0 (-1) (List.replicate d 0)
    rw [List.length_replicate] at hm
    rw [Int.toNat_natCast, List.replicate_succ, hm, List.replicate_succ', List.append_assoc]
    rfl
   have c5 := w64s i (by omega)
   simp only [Z28.l0, c1, c2, c3, c4, c5, if_true]
   exact ih (i + 1) (by omega)
 unfold Z28.f
 refine Ev.bind (impl_surf _ _) ?_
 have n1 : ¬ ((s : Int) < 0) := by omega
 have n2 : decide ((s : Int) ≥ (r.length : Int)) = false := by rw [decide_eq_false_iff_not]; omega
 simp only [h0, n1, n2, I_len', if_true, if_false]
 refine ev_succ ?_
 have z1 : (0 : Int) ≤ (r.length : Int) := by omega
 have z2 : r.length ≤ 35184372088832 := by omega
 simp only [Z28.j0, Bool.false_eq_true, I_len', z1, z2, if_true, if_false, Int.toNat_natCast, Option.bind_some, List.length_replicate]
 have := H r.length 0 (Nat.zero_add _)
 simpa using this
end Go.Proofs.Ytcggfjpnfodbaaa.M
end
section
/- The canonical form: the program and the reference find the same one. No conditions. -/
namespace Go.Proofs.Ytcggfjpnfodbaaa.M
set_option linter.unusedVariables false
set_option linter.unusedSimpArgs false
open Go.RowKit Go.Proofs.YtcggfjpnfodbaaaW.PrintWords Go.Proofs.YtcggfjpnfodbaaaW.PrintLast Go.Proofs.YtcggfjpnfodbaaaW.PrintMore Go.Proofs.Ytcggfjpnfodbaaa.A
def lexC : List Nat → List Nat → Int
 | [], [] => 0
 | [], _ :: _ => -1
 | _ :: _, [] => 1
 | a :: l, b :: m => if a < b then -1 else if b < a then 1 else lexC l m
theorem cmp_ev (a b : Nat) : Z25.f (a : Int) (b : Int) = some (if a < b then -1 else if b < a then 1 else 0) := by
 unfold Z25.f Z32.f
 simp only [bne_self_eq_false, Option.bind_some, Bool.false_eq_true, if_false]
 by_cases h1 : a < b
 ·have : (a : Int) < (b : Int) := by omega
  simp only [h1, this, if_true]
 ·have n1 : ¬ (a : Int) < (b : Int) := by omega
  by_cases h2 : b < a
  ·have : (a : Int) > (b : Int) := by omega
   simp only [h1, n1, h2, this, if_true, if_false]
  ·have n2 : ¬ (a : Int) > (b : Int) := by omega
   simp only [h1, n1, h2, n2, if_false]
theorem lexC_eq : ∀ (a b : List Nat), lexC a b = 0 ↔ a = b := by
 intro a
 induction a with
 | nil => intro b; cases b <;> simp [lexC]
 | cons x a ih =>
  intro b
  cases b with
  | nil => simp [lexC]
  | cons y b =>
   unfold lexC
   by_cases h1 : x < y
   ·simp [h1]; omega
   ·by_cases h2 : y < x
    ·simp [h1, h2]; omega
    ·have e : x = y := by omega
     subst e
     simp [h1, ih]
theorem compare_ev (a b : List Nat) (hl : a.length ≤ 1000000) : Ev (fun k => Z3.f k (I a) (I b)) (lexC a b) := by
 unfold Z3.f
 have H : ∀ d i : Nat, i + d = a.length → i ≤ b.length → Ev (fun k => Z3.l0 k (I a) (I b) (I a) (a.length : Int) (i : Int)) (lexC (a.drop i) (b.drop i)) := by
  intro d
  induction d with
  | zero =>
   intro i hi hb
   refine ev_succ ?_
   have c1 : ¬ ((i : Int) < (a.length : Int)) := by omega
   rw [List.drop_of_length_le (l := a) (by omega)]
   simp only [Z3.l0, c1, I_len', if_false]
   by_cases h : (a.length : Int) < (b.length : Int)
   ·have : lexC [] (b.drop i) = -1 := by
     rw [List.drop_eq_getElem_cons (by omega)]
     rfl
    simp only [h, if_true, this]
    exact Ev.now _
   ·have : lexC [] (b.drop i) = 0 := by
     rw [List.drop_of_length_le (by omega)]
     rfl
    simp only [h, if_false, this]
    exact Ev.now _
  | succ d ih =>
   intro i hi hb
   have hia : i < a.length := by omega
   rw [List.drop_eq_getElem_cons hia, ← g_get hia]
   have c1 : (i : Int) < (a.length : Int) := by omega
   have c2 : (0 : Int) ≤ (i : Int) := by omega
   have c3 := w64s i (by omega)
   refine ev_succ ?_
   by_cases h : i < b.length
   ·rw [List.drop_eq_getElem_cons h, ← g_get h]
    have n1 : ¬ ((i : Int) ≥ (b.length : Int)) := by omega
    have n2 : (i : Int) < (b.length : Int) := by omega
    simp only [Z3.l0, c1, c2, c3, n1, n2, I_len', rdI, cmp_ev, Option.bind_some, if_true, if_false]
    unfold lexC
    by_cases h1 : g a i < g b i
    ·have z : ¬ ((-1 : Int) = 0) := by omega
     simp only [h1, z, if_true, if_false]
     exact Ev.now _
    ·by_cases h2 : g b i < g a i
     ·have z : ¬ ((1 : Int) = 0) := by omega
      simp only [h1, h2, z, if_true, if_false]
      exact Ev.now _
     ·simp only [h1, h2, if_true, if_false]
      exact ih (i + 1) (by omega) (by omega)
   ·have n1 : (i : Int) ≥ (b.length : Int) := by omega
    rw [List.drop_of_length_le (l := b) (by omega)]
    simp only [Z3.l0, c1, c2, n1, I_len', if_true]
    exact Ev.now _
 have key := H a.length 0 (Nat.zero_add _) (Nat.zero_le _)
 rw [List.drop_zero, List.drop_zero] at key
 simp only [I_len']
 exact key
def cmpS (a b : List Nat × List Nat) : Int := if lexC a.1 b.1 = 0 then lexC a.2 b.2 else lexC a.1 b.1
theorem impl_cmpS (a b : List Nat × List Nat) (h1 : a.1.length ≤ 1000000) (h2 : a.2.length ≤ 1000000) : Ev (fun k => Z4.f k (I a.1) (I a.2) (I b.1) (I b.2)) (cmpS a b) := by
 unfold Z4.f cmpS
 refine Ev.bind (compare_ev a.1 b.1 h1) ?_
 by_cases h : lexC a.1 b.1 = 0
 ·simp only [h, if_true]
  exact Ev.bind (compare_ev a.2 b.2 h2) (Ev.now _)
 ·simp only [h, if_false]
  exact Ev.now _
def rS (r u : List Nat) (s : Nat) : List Nat × List Nat := rnS r u (nm r u s)
theorem rS_len {r u : List Nat} (s : Nat) : (rS r u s).1.length = r.length ∧ (rS r u s).2.length = u.length := ⟨ren_len _ _, ren_len _ _⟩
def canK (r u : List Nat) : Nat → List Nat × List Nat
 | 0 => rS r u 0
 | k + 1 => if cmpS (rS r u (k + 1)) (canK r u k) < 0 then rS r u (k + 1) else canK r u k
theorem canK_len {r u : List Nat} (k : Nat) : (canK r u k).1.length = r.length ∧ (canK r u k).2.length = u.length := by
 induction k with
 | zero => exact rS_len 0
 | succ k ih =>
  unfold canK
  split
  ·exact rS_len _
  ·exact ih
def canS (r u : List Nat) : List Nat × List Nat := canK r u (r.length - 1)
def namedL (r u : List Nat) (n : Nat) : List S25 := (List.range n).map (fun s => (⟨I (rS r u s).1, I (rS r u s).2⟩ : S25))
theorem namedL_len (r u : List Nat) (n : Nat) : (namedL r u n).length = n := by simp [namedL]
theorem rd_named {r u : List Nat} {n i : Nat} (h : i < n) : rd_T25 (namedL r u n) (i : Int) = ⟨I (rS r u i).1, I (rS r u i).2⟩ := by
 unfold rd_T25 namedL
 simp [List.getD_eq_getElem?_getD, h]
theorem count_sq {r u : List Nat} (hs : Sf r u) : Ev (fun k => Z13.f k (I r) (I u)) (r.length : Int) := by
 unfold Z13.f
 refine Ev.bind (impl_surf _ _) ?_
 have h0 := surfB_I.mpr hs
 simp only [h0, I_len', if_true]
 exact Ev.now _
theorem impl_named {r u : List Nat} (hs : Sf r u) : Ev (fun k => Z30.f k (I r) (I u)) (namedL r u r.length) := by
 have hle := hs.le
 unfold Z30.f
 have H : ∀ d i : Nat, i + d = r.length → Ev (fun k => Z30.l0 k (namedL r u i) (i : Int) (I r) (I u)) (namedL r u r.length) := by
  intro d
  induction d with
  | zero =>
   intro i hi
   obtain rfl : i = r.length := by omega
   refine ev_succ ?_
   simp only [Z30.l0]
   refine Ev.bind (count_sq hs) ?_
   have c1 : ¬ ((r.length : Int) < (r.length : Int)) := by omega
   simp only [c1, if_false]
   exact Ev.now _
  | succ d ih =>
   intro i hi
   have hil : i < r.length := by omega
   have q1 := isP_nm hs hil
   refine ev_succ ?_
   simp only [Z30.l0]
   refine Ev.bind (count_sq hs) ?_
   have c1 : (i : Int) < (r.length : Int) := by omega
   have c2 : (namedL r u i).length < 2932031007402 := by rw [namedL_len]; omega
   have c3 := w64s i (by omega)
   simp only [c1, if_true]
   refine Ev.bind (impl_names hs hil) (Ev.bind (impl_renS hs q1.1 q1.2) ?_)
   have e : namedL r u i ++ [(⟨I (rnS r u (nm r u i)).1, I (rnS r u (nm r u i)).2⟩ : S25)] = namedL r u (i + 1) := by
    unfold namedL
    rw [List.range_succ, List.map_append]
    rfl
   simp only [c2, c3, e, if_true]
   exact ih (i + 1) (by omega)
 exact H r.length 0 (Nat.zero_add _)
theorem impl_canon {r u : List Nat} (hs : Sf r u) : Ev (fun k => Z41.f k (I r) (I u)) (I (canS r u).1, I (canS r u).2, true) := by
 have hle := hs.le
 have heq := hs.eq
 have hpos := hs.pos
 unfold Z41.f
 refine Ev.bind (impl_named hs) ?_
 have c0 : ¬ ((r.length : Int) = 0) := by omega
 simp only [namedL_len, c0, if_false]
 refine Ev.bind (a := (I (canS r u).1, I (canS r u).2)) ?_ (Ev.now _)
 unfold Z27.f
 have c1 : ¬ ((r.length : Int) < 1) := by omega
 have c2 : (0 : Int) < (r.length : Int) := by omega
 have e0 : rd_T25 (namedL r u r.length) 0 = ⟨I (canK r u 0).1, I (canK r u 0).2⟩ := rd_named hpos
 simp only [namedL_len, c1, c2, e0, if_true, if_false]
 have H : ∀ d i : Nat, i + 1 + d = r.length → Ev (fun k => Z27.l0 k (namedL r u r.length) ((i + 1 : Nat) : Int) (I (canK r u i).1) (I (canK r u i).2)) (I (canS r u).1, I (canS r u).2) := by
  intro d
  induction d with
  | zero =>
   intro i hi
   refine ev_succ ?_
   have c1 : ¬ (((i + 1 : Nat) : Int) < (r.length : Int)) := by omega
   have e : canS r u = canK r u i := by
    unfold canS
    congr 1
    omega
   rw [e]
   simp only [Z27.l0, c1, namedL_len, if_false]
   exact Ev.now _
  | succ d ih =>
   intro i hi
   have hi1 : i + 1 < r.length := by omega
   have c1 : ((i + 1 : Nat) : Int) < (r.length : Int) := by omega
   have c2 : (0 : Int) ≤ ((i + 1 : Nat) : Int) := by omega
   have c4 : rd_T25 (namedL r u r.length) ((i + 1 : Nat) : Int) = ⟨I (rS r u (i + 1)).1, I (rS r u (i + 1)).2⟩ := rd_named hi1
   have c3 := w64s (i + 1) (by omega)
   have lr := rS_len (r := r) (u := u) (i + 1)
   refine ev_succ ?_
   simp only [Z27.l0, c1, c2, c3, c4, namedL_len, if_true]
   refine Ev.bind (impl_cmpS (rS r u (i + 1)) (canK r u i) (by rw [lr.1]; omega) (by rw [lr.2]; omega)) ?_
   have key := ih (i + 1) (by omega)
   unfold canK at key
   by_cases h : cmpS (rS r u (i + 1)) (canK r u i) < 0
   ·rw [if_pos h] at key
    simp only [h, if_true]
    exact key
   ·rw [if_neg h] at key
    simp only [h, if_false]
    exact key
 exact H (r.length - 1) 0 (by omega)
theorem impl_canon_no {r u : List Int} (h : ¬ surfB r u = true) : Ev (fun k => Z41.f k r u) ([], [], false) := by
 have h' := Bool.eq_false_iff.mpr h
 unfold Z41.f
 refine Ev.bind (a := ([] : List S25)) ?_ ?_
 ·unfold Z30.f
  refine ev_succ ?_
  simp only [Z30.l0]
  refine Ev.bind (a := (0 : Int)) ?_ ?_
  ·unfold Z13.f
   refine Ev.bind (impl_surf _ _) ?_
   simp only [h', Bool.false_eq_true, if_false]
   exact Ev.now _
  ·have c1 : ¬ ((0 : Int) < 0) := by omega
   simp only [c1, if_false]
   exact Ev.now _
 ·simp only [List.length_nil]
  exact Ev.now _
theorem equal_ev (a b : List Nat) (h : a.length ≤ 1000000000) : Ev (fun k => Z36.f k (I a) (I b)) (decide (a = b)) := by
 unfold Z36.f Z5.f
 refine Ev.bind (a := decide (a = b)) ?_ (Ev.now _)
 by_cases hl : (a.length : Int) = (b.length : Int)
 ·have hl' : a.length = b.length := by omega
  simp only [I_len', hl, if_true]
  have H : ∀ d i : Nat, i + d = a.length → Ev (fun k => Z5.l0 k (I a) (I b) (b.length : Int) (i : Int)) (decide (a.drop i = b.drop i)) := by
   intro d
   induction d with
   | zero =>
    intro i hi
    refine ev_succ ?_
    have c1 : ¬ ((i : Int) < (b.length : Int)) := by omega
    have e : decide (a.drop i = b.drop i) = true := by rw [List.drop_of_length_le (by omega), List.drop_of_length_le (by omega)]; simp
    simp only [Z5.l0, c1, if_false, e]
    exact Ev.now _
   | succ d ih =>
    intro i hi
    have hia : i < a.length := by omega
    have hib : i < b.length := by omega
    rw [List.drop_eq_getElem_cons hia, ← g_get hia, List.drop_eq_getElem_cons hib, ← g_get hib]
    have c1 : (i : Int) < (b.length : Int) := by omega
    have c2 : (0 : Int) ≤ (i : Int) := by omega
    have c4 : (i : Int) < (a.length : Int) := by omega
    have c3 := w64s i (by omega)
    refine ev_succ ?_
    by_cases he : g a i = g b i
    ·have z : ((g a i : Nat) : Int) = ((g b i : Nat) : Int) := by omega
     have e : decide (g a i :: a.drop (i + 1) = g b i :: b.drop (i + 1)) = decide (a.drop (i + 1) = b.drop (i + 1)) := by simp [he]
     rw [e]
     simp only [Z5.l0, c1, c2, c3, c4, I_len', rdI, z, if_true]
     exact ih (i + 1) (by omega)
    ·have z : ¬ (((g a i : Nat) : Int) = ((g b i : Nat) : Int)) := by omega
     have e : decide (g a i :: a.drop (i + 1) = g b i :: b.drop (i + 1)) = false := by simp [he]
     rw [e]
     simp only [Z5.l0, c1, c2, c4, I_len', rdI, z, if_true, if_false]
     exact Ev.now _
  have key := H a.length 0 (Nat.zero_add _)
  rw [List.drop_zero, List.drop_zero] at key
  exact key
 ·have e : decide (a = b) = false := by
   rw [decide_eq_false_iff_not]
   intro e
   rw [e] at hl
   exact hl rfl
  simp only [I_len', hl, if_false, e]
  exact Ev.now _
end Go.Proofs.Ytcggfjpnfodbaaa.M
end
section
/- The order of surfaces. No conditions. -/
namespace Go.Proofs.Ytcggfjpnfodbaaa.M
set_option linter.unusedVariables false
set_option linter.unusedSimpArgs false
open Go.RowKit Go.Proofs.YtcggfjpnfodbaaaW.PrintWords Go.Proofs.YtcggfjpnfodbaaaW.PrintLast Go.Proofs.YtcggfjpnfodbaaaW.PrintMore Go.Proofs.Ytcggfjpnfodbaaa.A
theorem lexC_neg : ∀ (a b : List Nat), lexC b a = - lexC a b := by
 intro a
 induction a with
 | nil => intro b; cases b <;> simp [lexC]
 | cons x a ih =>
  intro b
  cases b with
  | nil => simp [lexC]
  | cons y b =>
   unfold lexC
   by_cases h1 : x < y
   ·have h2 : ¬ y < x := by omega
    simp [h1, h2]
   ·by_cases h2 : y < x
    ·simp [h1, h2]
    ·simp [h1, h2, ih]
theorem lexC_tr : ∀ (a b c : List Nat), lexC a b < 0 → lexC b c < 0 → lexC a c < 0 := by
 intro a
 induction a with
 | nil =>
  intro b c h1 h2
  cases c with
  | nil => cases b <;> simp [lexC] at h1 h2
  | cons z c => simp [lexC]
 | cons x a ih =>
  intro b c h1 h2
  cases b with
  | nil => simp [lexC] at h1
  | cons y b =>
   cases c with
   | nil => simp [lexC] at h2
   | cons z c =>
    unfold lexC at h1 h2 ⊢
    by_cases p1 : x < y
    ·by_cases p2 : y < z
     ·have : x < z := by omega
      simp [this]
     ·by_cases p3 : z < y
      ·simp [p2, p3] at h2
      ·have : x < z := by omega
       simp [this]
    ·by_cases q1 : y < x
     ·simp [p1, q1] at h1
     ·have e : x = y := by omega
      subst e
      by_cases p2 : x < z
      ·simp [p2]
      ·by_cases p3 : z < x
       ·simp [p2, p3] at h2
       ·simp only [p2, p3, if_false] at h2 ⊢
        simp only [p1, q1, if_false] at h1
        exact ih b c h1 h2
theorem cmpS_eq (a b : List Nat × List Nat) : cmpS a b = 0 ↔ a = b := by
 unfold cmpS
 by_cases h : lexC a.1 b.1 = 0
 ·rw [if_pos h]
  have e := (lexC_eq _ _).1 h
  constructor
  ·intro h2
   exact Prod.ext e ((lexC_eq _ _).1 h2)
  ·intro h2
   rw [h2]
   exact (lexC_eq _ _).2 rfl
 ·rw [if_neg h]
  constructor
  ·intro h2; exact absurd h2 h
  ·intro h2
   rw [h2] at h
   exact absurd ((lexC_eq _ _).2 rfl) h
theorem cmpS_neg (a b : List Nat × List Nat) : cmpS b a = - cmpS a b := by
 unfold cmpS
 have h1 := lexC_neg a.1 b.1
 have h2 := lexC_neg a.2 b.2
 by_cases h : lexC a.1 b.1 = 0
 ·have h' : lexC b.1 a.1 = 0 := by omega
  rw [if_pos h, if_pos h', h2]
 ·have h' : ¬ lexC b.1 a.1 = 0 := by omega
  rw [if_neg h, if_neg h', h1]
theorem cmpS_tr (a b c : List Nat × List Nat) (h1 : cmpS a b < 0) (h2 : cmpS b c < 0) : cmpS a c < 0 := by
 unfold cmpS at *
 by_cases p : lexC a.1 b.1 = 0
 ·rw [if_pos p] at h1
  have e := (lexC_eq _ _).1 p
  rw [e]
  by_cases q : lexC b.1 c.1 = 0
  ·rw [if_pos q] at h2 ⊢
   exact lexC_tr _ _ _ h1 h2
  ·rw [if_neg q] at h2 ⊢
   exact h2
 ·rw [if_neg p] at h1
  by_cases q : lexC b.1 c.1 = 0
  ·rw [if_pos q] at h2
   have e := (lexC_eq _ _).1 q
   rw [← e, if_neg p]
   exact h1
  ·rw [if_neg q] at h2
   have := lexC_tr _ _ _ h1 h2
   rw [if_neg (by omega)]
   exact this
end Go.Proofs.Ytcggfjpnfodbaaa.M
end
section
/- A list of surfaces sorted, each once. No conditions. -/
namespace Go.Proofs.Ytcggfjpnfodbaaa.M
set_option linter.unusedVariables false
set_option linter.unusedSimpArgs false
open Go.RowKit Go.Proofs.YtcggfjpnfodbaaaW.PrintWords Go.Proofs.YtcggfjpnfodbaaaW.PrintLast Go.Proofs.YtcggfjpnfodbaaaW.PrintMore Go.Proofs.Ytcggfjpnfodbaaa.A
def ofN (p : List Nat × List Nat) : S25 := ⟨I p.1, I p.2⟩
def NN (l : List Int) : Prop := (∀ a ∈ l, 0 ≤ a) ∧ l.length ≤ 1000000
instance (l : List Int) : Decidable (NN l) := inferInstanceAs (Decidable (_ ∧ _))
def okS (x : S25) : Prop := NN x.f0 ∧ NN x.f1
instance (x : S25) : Decidable (okS x) := inferInstanceAs (Decidable (_ ∧ _))
end Go.Proofs.Ytcggfjpnfodbaaa.M
end
section
/- Lists of surfaces sorted, each once: put in one by one, or all at the end. No conditions. -/
namespace Go.Proofs.Ytcggfjpnfodbaaa.M
set_option linter.unusedVariables false
set_option linter.unusedSimpArgs false
open Go.RowKit Go.Proofs.YtcggfjpnfodbaaaW.PrintWords Go.Proofs.YtcggfjpnfodbaaaW.PrintLast Go.Proofs.YtcggfjpnfodbaaaW.PrintMore Go.Proofs.Ytcggfjpnfodbaaa.A
def insS (l : List (List Nat × List Nat)) (s : List Nat × List Nat) : List (List Nat × List Nat) :=
 match l with
 | [] => [s]
 | x :: xs => if x = s then x :: xs else if cmpS s x < 0 then s :: x :: xs else x :: insS xs s
theorem mem_insS {l : List (List Nat × List Nat)} {s y : List Nat × List Nat} : y ∈ insS l s ↔ y = s ∨ y ∈ l := by
 induction l with
 | nil => simp [insS]
 | cons x xs ih =>
  unfold insS
  split
  ·rename_i e; subst e; simp
  ·split
   ·simp
   ·simp only [List.mem_cons, ih]
    constructor
    ·rintro (h | h | h)
     ·exact .inr (.inl h)
     ·exact .inl h
     ·exact .inr (.inr h)
    ·rintro (h | h | h)
     ·exact .inr (.inl h)
     ·exact .inl h
     ·exact .inr (.inr h)
def insAll (l : List (List Nat × List Nat)) (ss : List (List Nat × List Nat)) : List (List Nat × List Nat) := ss.foldl insS l
theorem mem_insAll : ∀ (ss l : List (List Nat × List Nat)) (y : List Nat × List Nat), y ∈ insAll l ss ↔ y ∈ l ∨ y ∈ ss
 | [], l, y => by simp [insAll]
 | s :: ss, l, y => by
  have := mem_insAll ss (insS l s) y
  rw [mem_insS] at this
  show y ∈ insAll (insS l s) ss ↔ _
  rw [this, List.mem_cons]
  constructor
  ·rintro ((h | h) | h)
   ·exact .inr (.inl h)
   ·exact .inl h
   ·exact .inr (.inr h)
  ·rintro (h | h | h)
   ·exact .inl (.inr h)
   ·exact .inl (.inl h)
   ·exact .inr h
end Go.Proofs.Ytcggfjpnfodbaaa.M
end
section
/- Marks on lists of lists. No conditions. -/
namespace Go.Proofs.Ytcggfjpnfodbaaa.M
set_option linter.unusedVariables false
set_option linter.unusedSimpArgs false
open Go.RowKit Go.Proofs.YtcggfjpnfodbaaaW.PrintWords Go.Proofs.YtcggfjpnfodbaaaW.PrintLast Go.Proofs.YtcggfjpnfodbaaaW.PrintMore Go.Proofs.Ytcggfjpnfodbaaa.A
theorem getD_mid {α : Type} (p : List α) (x : α) (xs : List α) (d : α) : (p ++ x :: xs).getD p.length d = x := by
 rw [List.getD_eq_getElem?_getD, List.getElem?_append_right (Nat.le_refl _)]
 simp
end Go.Proofs.Ytcggfjpnfodbaaa.M
end
section
/- One round about a corner; first places in lists. No conditions. -/
namespace Go.Proofs.Ytcggfjpnfodbaaa.M
set_option linter.unusedVariables false
set_option linter.unusedSimpArgs false
open Go.RowKit Go.Proofs.YtcggfjpnfodbaaaW.PrintWords Go.Proofs.YtcggfjpnfodbaaaW.PrintLast Go.Proofs.YtcggfjpnfodbaaaW.PrintMore Go.Proofs.Ytcggfjpnfodbaaa.A
theorem impl_then {p q : List Nat} (hp : IsP p) (hq : IsP q) (hl : p.length = q.length) (h24 : p.length ≤ 24) : Ev (fun k => Z37.f k (I p) (I q)) (I (thn p q)) := by
 unfold Z37.f
 refine Ev.bind (impl_permOk (I p)) ?_
 have e1 : permB (I p) = true := permB_I.mpr ⟨hp, h24⟩
 have e2 : permB (I q) = true := permB_I.mpr ⟨hq, by omega⟩
 simp only [e1, if_true]
 refine Ev.bind (impl_permOk (I q)) ?_
 have e3 : ((p.length : Int) != (q.length : Int)) = false := by simp [hl]
 simp only [e2, if_true, I_len', e3]
 refine ev_succ ?_
 have h1 : (0 : Int) ≤ (p.length : Int) := by omega
 have h2 : p.length ≤ 35184372088832 := by omega
 simp only [Z37.j0, Bool.false_eq_true, if_false, I_len', h1, h2, if_true, Int.toNat_natCast]
 have H : ∀ (d i : Nat) (c : List Nat), i + d = p.length → c.length = p.length → (∀ j, j < i → g c j = g q (g p j)) → Ev (fun k => Z37.l0 k (I q) (I c) (I p) (p.length : Int) (i : Int)) (I (thn p q)) := by
  intro d
  induction d with
  | zero =>
   intro i c h hc hx
   refine ev_succ ?_
   have h1 : ¬ ((i : Int) < (p.length : Int)) := by omega
   have e : thn p q = c := by
    refine (eq_tab hc (fun j hj => hx j (by omega))).symm
   simp only [Z37.l0, h1, if_false]
   rw [e]
   exact Ev.now _
  | succ d ih =>
   intro i c h hc hx
   refine ev_succ ?_
   have hi : i < p.length := by omega
   have gp := g_lt hp hi
   have c1 : (i : Int) < (p.length : Int) := by omega
   have c2 : (0 : Int) ≤ (i : Int) := by omega
   have c3 : (0 : Int) ≤ ((g p i : Nat) : Int) := by omega
   have c4 : ((g p i : Nat) : Int) < (q.length : Int) := by omega
   have c5 : (i : Int) < (c.length : Int) := by omega
   have h3 := w64s i (by omega)
   simp only [Z37.l0, c1, c2, c3, c4, c5, h3, rdI, I_len', I_set, if_true, Int.toNat_natCast]
   refine ih (i + 1) _ (by omega) (by rw [List.length_set]; exact hc) (fun j hj => ?_)
   rw [g_set (by omega)]
   by_cases e : i = j
   ·subst e
    simp
   ·rw [if_neg e]
    exact hx j (by omega)
 have := H p.length 0 (List.replicate p.length 0) (by omega) (by simp) (fun j hj => by omega)
 rw [I_rep] at this
 exact this
def arnd (r u : List Nat) : List Nat := thn (thn r u) (thn (inv r) (inv u))
end Go.Proofs.Ytcggfjpnfodbaaa.M
end
section
/- Slopes and paths: the program and the reference answer alike. No conditions. -/
namespace Go.Proofs.Ytcggfjpnfodbaaa.M
set_option linter.unusedVariables false
set_option linter.unusedSimpArgs false
open Go.RowKit Go.Proofs.YtcggfjpnfodbaaaW.PrintWords Go.Proofs.YtcggfjpnfodbaaaW.PrintLast Go.Proofs.YtcggfjpnfodbaaaW.PrintMore Go.Proofs.Ytcggfjpnfodbaaa.A
def wk (r u : List Nat) (w : ByteArray) : Nat → Nat → Nat
 | 0, x => x
 | j + 1, x => if bt w (j : Int) = 114 then g r (wk r u w j x) else g u (wk r u w j x)
end Go.Proofs.Ytcggfjpnfodbaaa.M
end
