/- Lemmas for the row FnKept: the program's functions told as plain functions, and plain mathematics. No conditions. -/
import Derived.Test.YtoijcallajegfaaQFnKept3
section
namespace Go.Proofs.Ytoijcallajegfaa.A
open Go.RowKit Go.Proofs.YtoijcallajegfaaW.PrintWords Go.Proofs.YtoijcallajegfaaW.PrintLast Go.Proofs.YtoijcallajegfaaW.PrintMore
attribute [local go_sem] max2_int min2_int max_two min_two max_three min_three max_four min_four
set_option linter.unusedVariables false
set_option linter.unusedSimpArgs false
mutual
def Z58.l0 : Nat → Int → List Int → List Int → List Int → Int → Int → List Int → List Int → Option (List Int)
 | 0, _, _, _, _, _, _, _, _ => none
 | k + 1, x1, x5, x6, x7, x25, x26, x792000, x792001 => if x26 < x25 then (if 0 ≤ x26 then (if x26 < (x7.length : Int) then (Z58.l0 k x1 x5 x6 (x7.set (x26 : Int).toNat (-1)) x25 (wrap64 (x26 + 1)) x792000 x792001) else (none)) else (none)) else (if 0 < (x7.length : Int) then (Z58.l1 k x5 x6 (x7.set (0 : Int).toNat x1) (([0] : List Int)) 0 x792000 x792001) else (none))
def Z58.l1 : Nat → List Int → List Int → List Int → List Int → Int → List Int → List Int → Option (List Int)
 | 0, _, _, _, _, _, _, _ => none
 | k + 1, x5, x6, x7, x9, x10, x792000, x792001 => if x10 < (x9.length : Int) then (if 0 ≤ x10 then (if 0 ≤ (rd x9 x10) then (if (rd x9 x10) < (x792000.length : Int) then (if (rd x9 x10) < (x7.length : Int) then (if 0 ≤ (rd x7 (rd x9 x10)) then (if (rd x7 (rd x9 x10)) < (x5.length : Int) then (if (rd x9 x10) < (x792001.length : Int) then (if (rd x7 (rd x9 x10)) < (x6.length : Int) then ((some (([(⟨rd x792000 (rd x9 x10), rd x5 (rd x7 (rd x9 x10))⟩ : S118), (⟨rd x792001 (rd x9 x10), rd x6 (rd x7 (rd x9 x10))⟩ : S118)] : List (S118)) : List (S118))).bind fun y813 => (Z58.l2 k x5 x6 x7 x9 x10 y813 (y813.length : Int) 0 x792000 x792001)) else (none)) else (none)) else (none)) else (none)) else (none)) else (none)) else (none)) else (none)) else (some x7)
def Z58.l2 : Nat → List Int → List Int → List Int → List Int → Int → List (S118) → Int → Int → List Int → List Int → Option (List Int)
 | 0, _, _, _, _, _, _, _, _, _, _ => none
 | k + 1, x5, x6, x7, x9, x10, x73, x74, x75, x792000, x792001 => if x75 < x74 then (if 0 ≤ x75 then (if x75 < (x73.length : Int) then (if 0 ≤ ((rd_T118 x73 x75).f0) then (if ((rd_T118 x73 x75).f0) < (x7.length : Int) then (if (rd x7 ((rd_T118 x73 x75).f0)) < 0 then (if x9.length < 17592186044416 then (Z58.l2 k x5 x6 (x7.set (((rd_T118 x73 x75).f0) : Int).toNat ((rd_T118 x73 x75).f1)) (x9 ++ [(rd_T118 x73 x75).f0]) x10 x73 x74 (wrap64 (x75 + 1)) x792000 x792001) else (none)) else (Z58.l2 k x5 x6 x7 x9 x10 x73 x74 (wrap64 (x75 + 1)) x792000 x792001)) else (none)) else (none)) else (none)) else (none)) else (Z58.l1 k x5 x6 x7 x9 (wrap64 (x10 + 1)) x792000 x792001)
end
def Z58.f (k : Nat) (l0_0 : List Int) (l0_1 : List Int) (a1 : Int) : Option (List Int) := (Z17.f k l0_0).bind fun t792 => ((Z17.f k l0_1).bind fun t795 => (if 0 ≤ (l0_0.length : Int) then (if ((l0_0.length : Int) : Int).toNat ≤ 35184372088832 then ((some (List.replicate ((l0_0.length : Int) : Int).toNat 0 : List Int)).bind fun y798 => (Z58.l0 k a1 t792 t795 y798 (y798.length : Int) 0 l0_0 l0_1)) else (none)) else (none)))
theorem Z58.mono_l : ∀ k, (∀ y0 y1 y2 y3 y4 y5 y6 y7, LeO (Z58.l0 k y0 y1 y2 y3 y4 y5 y6 y7) (Z58.l0 (k + 1) y0 y1 y2 y3 y4 y5 y6 y7)) ∧ (∀ y0 y1 y2 y3 y4 y5 y6, LeO (Z58.l1 k y0 y1 y2 y3 y4 y5 y6) (Z58.l1 (k + 1) y0 y1 y2 y3 y4 y5 y6)) ∧ (∀ y0 y1 y2 y3 y4 y5 y6 y7 y8 y9, LeO (Z58.l2 k y0 y1 y2 y3 y4 y5 y6 y7 y8 y9) (Z58.l2 (k + 1) y0 y1 y2 y3 y4 y5 y6 y7 y8 y9))
 | 0 => ⟨fun _ _ _ _ _ _ _ _ r h => by simp [Z58.l0] at h, fun _ _ _ _ _ _ _ r h => by simp [Z58.l1] at h, fun _ _ _ _ _ _ _ _ _ _ r h => by simp [Z58.l2] at h⟩
 | k + 1 => by
  obtain ⟨ih0, ih1, ih2⟩ := Z58.mono_l k
  refine ⟨?_, ?_, ?_⟩
  ·intro y0 y1 y2 y3 y4 y5 y6 y7
   unfold Z58.l0
   repeat' first|exact ih0 _ _ _ _ _ _ _ _|exact ih1 _ _ _ _ _ _ _|exact ih2 _ _ _ _ _ _ _ _ _ _|exact Z17.mono _ _|exact lo_|refine LeO.ite ?_ ?_|refine LeO.bind ?_ (fun _ => ?_)
  ·intro y0 y1 y2 y3 y4 y5 y6
   unfold Z58.l1
   repeat' first|exact ih0 _ _ _ _ _ _ _ _|exact ih1 _ _ _ _ _ _ _|exact ih2 _ _ _ _ _ _ _ _ _ _|exact Z17.mono _ _|exact lo_|refine LeO.ite ?_ ?_|refine LeO.bind ?_ (fun _ => ?_)
  ·intro y0 y1 y2 y3 y4 y5 y6 y7 y8 y9
   unfold Z58.l2
   repeat' first|exact ih0 _ _ _ _ _ _ _ _|exact ih1 _ _ _ _ _ _ _|exact ih2 _ _ _ _ _ _ _ _ _ _|exact Z17.mono _ _|exact lo_|refine LeO.ite ?_ ?_|refine LeO.bind ?_ (fun _ => ?_)
theorem Z58.mono : ∀ a0 a1 a2 k, LeO (Z58.f k a0 a1 a2) (Z58.f (k + 1) a0 a1 a2) := by
 intro a0 a1 a2 k
 obtain ⟨ih0, ih1, ih2⟩ := Z58.mono_l k
 unfold Z58.f
 repeat' first|exact ih0 _ _ _ _ _ _ _ _|exact ih1 _ _ _ _ _ _ _|exact ih2 _ _ _ _ _ _ _ _ _ _|exact Z17.mono _ _|exact lo_|refine LeO.ite ?_ ?_|refine LeO.bind ?_ (fun _ => ?_)
def Z58.T15 : Bool × List (List Nat × List Nat) := (true, [([], []), ([0], [0]), ([], []), ([1, 2], [1, 2]), ([3], [3]), ([], []), ([], []), ([], []), ([6, 7], [6, 7]), ([8], [8]), ([5, 9], [5, 9]), ([10], [10]), ([4, 11], [4, 11]), ([], []), ([13], [13]), ([], []), ([14, 15], [14, 15]), ([16], [16]), ([], []), ([], []), ([], []), ([19, 20], [19, 20]), ([21], [21]), ([18, 22], [18, 22]), ([23], [23]), ([17, 24], [17, 24]), ([12, 25], [12, 25]), ([26], [26]), ([], [])])
def Z58.B15 : List Nat := [0, 1, 0, 7, 15, 0, 0, 0, 192, 448, 992, 2016, 4095, 0, 8192, 0, 57344, 122880, 0, 0, 0, 1572864, 3670016, 8126464, 16515072, 33546240, 67108863, 134217727, 0]
theorem Z58.tab15 : rtab .any (opsOf Try.f75 15) = Z58.T15 := by kernel_rfl
theorem Z58.bits15 : waitsOk Z58.T15.2 Z58.B15 = true := by kernel_rfl
set_option maxHeartbeats 8000000 in
set_option maxRecDepth 100000 in
theorem Z58.calls (k : Nat) (A0_0 : Option Addr) (c0_0 : Nat) (l0_0 : List Int) (A0_1 : Option Addr) (c0_1 : Nat) (l0_1 : List Int) (a1 : Int) (r : List Int) (w : World) (hr0_0 : Kd.C (Kd.int .i64) w A0_0 l0_0.length l0_0) (hc0_0 : l0_0.length ≤ c0_0) (hr0_1 : Kd.C (Kd.int .i64) w A0_1 l0_1.length l0_1) (hc0_1 : l0_1.length ≤ c0_1) (h : Z58.f k l0_0 l0_1 a1 = some r) :
  Calls Try.prog 75 #[.agg #[.slice A0_0 l0_0.length c0_0, .slice A0_1 l0_1.length c0_1], .int .i64 a1] w fun e w' => ∃ v0_ : Value, e = .returned (v0_) ∧ Kd.R (Kd.int .i64) 3 w' w.heap.size (fun _ => True) v0_ r ∧ Below w.heap.size w w' := by
 have hu33 := Try.underlying33
 have hu118 := Try.underlying118
 have HR0_0 := A_ hr0_0
 have HC0_0 := A_ hc0_0
 clear hr0_0 hc0_0
 have HR0_1 := A_ hr0_1
 have HC0_1 := A_ hc0_1
 clear hr0_1 hc0_1
 have HB := A_ (Below.refl w.heap.size w)
 have H := h
 unfold Z58.f at H
 clear h
 obtain ⟨t792, A3, H⟩ := bi_ H
 obtain ⟨t795, A4, H⟩ := bi_ H
 have c5 := cp_ H
 replace H := ca_ H
 have c5b0 := eq_true c5
 have c5b1 := oC_ c5
 clear c5
 have c6 := cp_ H
 replace H := ca_ H
 have c6b0 := eq_true c6
 have c6b1 := oC_ c6
 clear c6
 obtain ⟨y798, hy798⟩ : ∃ y_ : List Int, y_ = (List.replicate ((l0_0.length : Int) : Int).toNat 0) := ⟨_, rfl⟩
 replace H : (Z58.l0 k a1 t792 t795 y798 (y798.length : Int) 0 l0_0 l0_1) = some r := by first | (rw [hy798]; exact H) | exact H
 have Ny798 := A_ hy798
 clear hy798
 have H' := A_ H
 clear H
 go_enter Try.func75, Try.ntmps75
 go_wp2_with (first | ((with_reducible refine gB_ (N := 2) rfl ?_); refine bx_ 2 #[.slice A0_0 l0_0.length c0_0, .slice A0_1 l0_1.length c0_1] 33 ?_; intro gb791 hg w7 hbox hb; have BK791 := A_ hbox; have GW791 := gw_ w hg; have GE791 := GW791; replace HB := b1_ hb; clear hb hbox hg; obtain ⟨hcz8_0, hcz8_1, hfz8_0, hfz8_1⟩ := c2_ BK791) | ((with_reducible refine gA_ (f := 122) rfl ?_); refine gL_ (some 16) Try.func122 #[.slice A0_0 l0_0.length c0_0] rfl qa_ ?_; (with_reducible refine (Z17.calls k _ _ l0_0 t792 _ (cb_ HR0_0) HC0_0.out A3.out).mono ?_); rintro e w9 ⟨v793, rfl, ho0, hb⟩; refine ⟨_, rfl, ?_⟩; have HO794 := rl_ w ho0; replace BK791 := bb_ BK791 hb; replace HB := b1_ hb; clear hb ho0; obtain ⟨hcz10_0, hcz10_1, hfz10_0, hfz10_1⟩ := c2_ BK791) | ((with_reducible refine gA_ (f := 122) rfl ?_); refine gL_ (some 19) Try.func122 #[.slice A0_1 l0_1.length c0_1] rfl qa_ ?_; (with_reducible refine (Z17.calls k _ _ l0_1 t795 _ (cb_ HR0_1) HC0_1.out A4.out).mono ?_); rintro e w11 ⟨v796, rfl, ho0, hb⟩; refine ⟨_, rfl, ?_⟩; have HO797 := A_ (rE_ (Kd.R_new' ho0 (Kd.R_lt (rr_ HO794))) (bF_ hB_)); replace HO794 := A_ (Kd.R_elder' (rr_ HO794) (Kd.R_base ho0) hb); replace BK791 := bb_ BK791 hb; replace HB := b1_ hb; clear hb ho0; obtain ⟨hcz12_0, hcz12_1, hfz12_0, hfz12_1⟩ := c2_ BK791) | ((with_reducible refine gB_ (N := 23) rfl ?_); refine Kd.R_make (Kd.int .i64) _ 3 rfl (N := 23) rfl 23 _ _ rfl (l0_0.length : Int) rfl rfl Try.underlying23 (.int .i64 0) 8 info3 rfl (by decide) (by omega) 0 (ok := fun _ => True) (okp := fun _ => True) rfl (fun _ hk => hk) trivial (oB_ qe_) (Nat.le_trans (Nat.mul_le_mul_right _ (oB_ qe_ : (l0_0.length : Int).toNat ≤ 35184372088832)) (by omega)) (Below.refl _ _) (nA_ _) ?_; intro v799 w13 ho14 hb hg_ hnew_; clear hg_ hnew_; (first | rw [← Ny798.out] at ho14 | (simp only [Int.reduceToNat] at ho14; rw [← Ny798.out] at ho14)); have HO800 := A_ (rE_ (Kd.R_new' (Kd.R_new' ho14 (Kd.R_lt (rr_ HO794))) (Kd.R_lt (rr_ HO797))) (bF_ hB_)); replace HO794 := A_ (Kd.R_elder' (rr_ HO794) (Kd.R_base ho14) hb); replace HO797 := A_ (Kd.R_elder' (rr_ HO797) (Kd.R_base ho14) hb); replace BK791 := bb_ BK791 hb; replace HB := b1_ hb; clear hb ho14; obtain ⟨Ao15, co15, eo15⟩ := Kd.R_slice HO800.out; subst eo15))
 go_loopg [26] k (fun kq v26 w' => ∃ (x7_1 : List Int) (x26_1 : Int), v26 = .int .i64 x26_1 ∧ Aside0 (Z58.l0 kq a1 t792 t795 x7_1 (y798.length : Int) x26_1 l0_0 l0_1 = some r) ∧ Aside0 (kq ≤ k) ∧ Aside0 (Kd.R (Kd.int .i64) 3 w' w.heap.size (fun k_ => some k_ ≠ (v796 : Value).ownBlock ∧ some k_ ≠ ((.slice Ao15 y798.length co15) : Value).ownBlock) v793 t792) ∧ Aside0 (Kd.R (Kd.int .i64) 3 w' w.heap.size (fun k_ => some k_ ≠ (v793 : Value).ownBlock ∧ some k_ ≠ ((.slice Ao15 y798.length co15) : Value).ownBlock) v796 t795) ∧ Aside0 (Kd.R (Kd.int .i64) 3 w' w.heap.size (fun k_ => some k_ ≠ (v793 : Value).ownBlock ∧ some k_ ≠ (v796 : Value).ownBlock) (.slice Ao15 y798.length co15) x7_1) ∧ Aside0 (w'.heap[gb791]? = some (.cells #[(.slice A0_0 l0_0.length c0_0), (.slice A0_1 l0_1.length c0_1)] 33 (0, 0))) ∧ Aside0 (Below w.heap.size w w'))
 case atStart => exact ⟨(y798), (0), qc_, H', ⟨nA_ _⟩, ⟨(rw_ (Kd.R_mono HO794.out (fun _ hk => ⟨hk.1.2, hk.2⟩)))⟩, ⟨(rw_ (Kd.R_mono HO797.out (fun _ hk => ⟨hk.1.2, hk.2⟩)))⟩, ⟨(rw_ (Kd.R_mono HO800.out (fun _ hk => ⟨hk.1.2, hk.2⟩)))⟩, ⟨(kk_ BK791)⟩, ⟨hB_⟩⟩
 case round =>
  clear H'
  obtain ⟨x7_1, x26_1, rfl, HA, HK1, HO_5, HO_6, HO_7, BK791, HB⟩ := hrel
  have hl7_1 := (Kd.R_reads' HO_7.out).1
  rw [hl7_1] at HO_7
  (try simp only [hl7_1])
  (try simp only [hl7_1] at BK791)
  (try simp only [hl7_1] at HO_5)
  (try simp only [hl7_1] at HO_6)
  cases gk with
  | zero => exact absurd HA.out (by simp [Z58.l0])
  | succ k1 =>
   have H := HA.out
   clear HA
   simp only [Z58.l0] at H
   by_cases c16 : x26_1 < (y798.length : Int)
   ·rw [if_pos c16] at H
    have c16b0 := oC_ c16
    clear c16
    have c17 := cp_ H
    replace H := ca_ H
    have c17b0 := oC_ c17
    clear c17
    have c18 := cp_ H
    replace H := ca_ H
    have c18b0 := oC_ c18
    clear c18
    obtain ⟨y801, hy801⟩ : ∃ y_ : List Int, y_ = (x7_1.set (x26_1 : Int).toNat (-1)) := ⟨_, rfl⟩
    replace H : (Z58.l0 k1 a1 t792 t795 y801 (y798.length : Int) (wrap64 (x26_1 + 1)) l0_0 l0_1) = some r := by first | (rw [hy801]; exact H) | exact H
    have Ny801 := A_ hy801
    clear hy801
    have H' := A_ H
    clear H
    have p19 : 0 ≤ (x26_1 : Int) := oB_ qe_
    have q19 : (x26_1 : Int) < ((x7_1.length : Int) : Int) := oB_ qe_
    obtain ⟨go19, co19, eo19, gb19, gl19, cl19, HG19⟩ := Kd.R_form HO_7.out (by omega)
    (first | cases eo19 | (injection eo19 with ea_ en_ ec_; (first | subst ea_ | (injection ea_ with ea_; subst ea_)); subst ec_; clear en_))
    have GB19 := A_ gb19
    have GG19 := A_ HG19
    clear gb19 gl19 HG19
    obtain ⟨hx19_0, hf19_0⟩ := Kd.R_celln 0 HO_7.out (x26_1 : Int) p19 q19
    replace p19 := eq_true p19
    replace q19 := eq_true q19
    have HP20 := Kd.R_putg HO_7.out (x26_1 : Int) (-1)
    go_wp2_with (first | ((with_reducible refine gate_store (t := 3) (p := 31) rfl ?_); refine store_event (t := 3) (p := 31) (v := ?vo_w21) (w1 := (wr.setCell ⟨go19, (x26_1 : Int).toNat, none⟩ (.int .i64 (-1)))) ?hg ?ho ?hn ?hr ?_; (case ho => rfl); (case hg => rfl); (case hn => rfl); (case hr => first | (go_simp; done) | (go_simp; rfl)); intro w21 hw; have hg : wr.grownBy w21 (some go19) := (by rw [hw]; exact HP20.2); have hp_ : Kd.R (Kd.int .i64) 3 w21 w.heap.size (fun k_ => some k_ ≠ (v793 : Value).ownBlock ∧ some k_ ≠ (v796 : Value).ownBlock) (.slice (some ⟨go19, 0, none⟩) x7_1.length co15) y801 := (by rw [hw, Ny801.out]; exact HP20.1); clear HP20; replace HO_5 := A_ (Kd.R_after (v := (.slice (some ⟨go19, 0, none⟩) x7_1.length co15)) (v1 := (.slice (some ⟨go19, 0, none⟩) x7_1.length co15)) (ok := (fun k_ => some k_ ≠ (v796 : Value).ownBlock)) (rr_ HO_5) hg (.inl rfl)); replace HO_6 := A_ (Kd.R_after (v := (.slice (some ⟨go19, 0, none⟩) x7_1.length co15)) (v1 := (.slice (some ⟨go19, 0, none⟩) x7_1.length co15)) (ok := (fun k_ => some k_ ≠ (v793 : Value).ownBlock)) (rr_ HO_6) hg (.inl rfl)); replace BK791 := A_ (blk_grown (kk_ BK791) hg (Kd.R_ne HO_7.out BK791.out (by decide))); replace HO_7 := A_ (hp_); replace HB := A_ ((by rw [hw]; exact bD_ (HB.out) GB19.out : Below w.heap.size w w21)); clear hg hw hp_))
    (try simp only [← hl7_1])
    go_roundg k1
    case measure => have := HK1.out; omega
    case rel => exact ⟨(y801), (wrap64 (x26_1 + 1)), qc_, H', ⟨by have := HK1.out; omega⟩, ⟨by (try simp only [hl7_1]); (with_reducible repeat (first | apply rA_ | apply rB_ | apply rC_)); exact HO_5.out⟩, ⟨by (try simp only [hl7_1]); (with_reducible repeat (first | apply rA_ | apply rB_ | apply rC_)); exact HO_6.out⟩, ⟨by (try simp only [hl7_1]); (with_reducible repeat (first | apply rA_ | apply rB_ | apply rC_)); exact HO_7.out⟩, ⟨by (try simp only [hl7_1]); (with_reducible repeat (first | refine kA_ ?_ _ | refine kB_ ?_ | refine kC_ ?_ _)); exact BK791.out⟩, ⟨hB_⟩⟩
   ·rw [if_neg c16] at H
    have c16b0 := oD_ c16
    (try simp only [hl7_1] at c16b0)
    clear c16
    have c22 := cp_ H
    replace H := ca_ H
    have c22b0 := oC_ c22
    have c22b1 : decide (0 < x7_1.length) = true := oC_ (by omega)
    clear c22
    obtain ⟨y802, hy802⟩ : ∃ y_ : List Int, y_ = (x7_1.set (0 : Int).toNat a1) := ⟨_, rfl⟩
    replace H : (Z58.l1 k1 t792 t795 y802 (([0] : List Int)) 0 l0_0 l0_1) = some r := by first | (rw [hy802]; exact H) | exact H
    have Ny802 := A_ hy802
    clear hy802
    obtain ⟨y803, hy803⟩ : ∃ y_ : List Int, y_ = (([0] : List Int)) := ⟨_, rfl⟩
    replace H : (Z58.l1 k1 t792 t795 y802 y803 0 l0_0 l0_1) = some r := by first | (rw [hy803]; exact H) | exact H
    have Ny803 := A_ hy803
    clear hy803
    have H' := A_ H
    clear H
    have p23 : 0 ≤ (0 : Int) := (by omega)
    have q23 : (0 : Int) < ((x7_1.length : Int) : Int) := oB_ qe_
    have qi23 : (0 < x7_1.length) = True := eq_true (by omega)
    obtain ⟨go23, co23, eo23, gb23, gl23, cl23, HG23⟩ := Kd.R_form HO_7.out (by omega)
    (first | cases eo23 | (injection eo23 with ea_ en_ ec_; (first | subst ea_ | (injection ea_ with ea_; subst ea_)); subst ec_; clear en_))
    have GB23 := A_ gb23
    have GG23 := A_ HG23
    clear gb23 gl23 HG23
    obtain ⟨hx23_0, hf23_0⟩ := Kd.R_celln 0 HO_7.out (0 : Int) p23 q23
    (try rw [show ((0 : Int)).toNat = 0 from rfl] at hx23_0)
    (try simp only [Nat.reduceMul, Nat.zero_mul, Nat.zero_add, Nat.reduceAdd] at hx23_0)
    (try rw [show ((0 : Int)).toNat = 0 from rfl] at hf23_0)
    (try simp only [Nat.reduceMul, Nat.zero_mul, Nat.zero_add, Nat.reduceAdd] at hf23_0)
    replace p23 := eq_true p23
    replace q23 := eq_true q23
    have HP24 := Kd.R_putg HO_7.out (0 : Int) a1
    go_wp2_with (first | ((with_reducible refine gate_store (t := 3) (p := 35) rfl ?_); refine store_event (t := 3) (p := 35) (v := ?vo_w25) (w1 := (wr.setCell ⟨go23, (0 : Int).toNat, none⟩ (.int .i64 a1))) ?hg ?ho ?hn ?hr ?_; (case ho => rfl); (case hg => rfl); (case hn => rfl); (case hr => first | (go_simp; done) | (go_simp; rfl)); intro w25 hw; have hg : wr.grownBy w25 (some go23) := (by rw [hw]; exact HP24.2); have hp_ : Kd.R (Kd.int .i64) 3 w25 w.heap.size (fun k_ => some k_ ≠ (v793 : Value).ownBlock ∧ some k_ ≠ (v796 : Value).ownBlock) (.slice (some ⟨go23, 0, none⟩) x7_1.length co15) y802 := (by rw [hw, Ny802.out]; exact HP24.1); clear HP24; replace HO_5 := A_ (Kd.R_after (v := (.slice (some ⟨go23, 0, none⟩) x7_1.length co15)) (v1 := (.slice (some ⟨go23, 0, none⟩) x7_1.length co15)) (ok := (fun k_ => some k_ ≠ (v796 : Value).ownBlock)) (rr_ HO_5) hg (.inl rfl)); replace HO_6 := A_ (Kd.R_after (v := (.slice (some ⟨go23, 0, none⟩) x7_1.length co15)) (v1 := (.slice (some ⟨go23, 0, none⟩) x7_1.length co15)) (ok := (fun k_ => some k_ ≠ (v793 : Value).ownBlock)) (rr_ HO_6) hg (.inl rfl)); replace BK791 := A_ (blk_grown (kk_ BK791) hg (Kd.R_ne HO_7.out BK791.out (by decide))); replace HO_7 := A_ (hp_); replace HB := A_ ((by rw [hw]; exact bD_ (HB.out) GB23.out : Below w.heap.size w w25)); clear hg hw hp_) | ((with_reducible refine gB_ (N := 36) rfl ?_); refine Kd.R_lit (Kd.int .i64) _ 3 ?hg (N := 36) ?hd (xs := ([0] : List Int)) (inner := [.int .i64 0]) (ok := fun _ => True) (okp := fun _ => True) ?hr ?hp (fun _ hk => hk) trivial (Below.refl _ _) (nA_ _) (by simp) ?_; (case hd => rfl); (case hg => rfl); (case hr => first | (go_simp; done) | (go_simp; rfl)); (case hp => exact (Reps.one (show Kd.M (Kd.int .i64) _ _ _ 0 [.int .i64 0] from rfl) (Reps.none _ _))); intro v804 w26 ho27 hb hg_ hnew_; clear hg_ hnew_; (first | rw [← Ny803.out] at ho27 | (simp only [Int.reduceToNat] at ho27; rw [← Ny803.out] at ho27)); have HO805 := A_ (rE_ (Kd.R_new' (Kd.R_new' (Kd.R_new' ho27 (Kd.R_lt (rr_ HO_5))) (Kd.R_lt (rr_ HO_6))) (Kd.R_lt (rr_ HO_7))) (bF_ hB_)); replace HO_5 := A_ (Kd.R_elder' (rr_ HO_5) (Kd.R_base ho27) hb); replace HO_6 := A_ (Kd.R_elder' (rr_ HO_6) (Kd.R_base ho27) hb); replace HO_7 := A_ (Kd.R_elder' (rr_ HO_7) (Kd.R_base ho27) hb); replace BK791 := bb_ BK791 hb; replace HB := b1_ hb; clear hb ho27))
    go_loopg [9, 10] k1 (fun kq v9 v10 w' => ∃ (x7_2 : List Int) (x9_2 : List Int) (x10_2 : Int), v10 = .int .i64 x10_2 ∧ Aside0 (Z58.l1 kq t792 t795 x7_2 x9_2 x10_2 l0_0 l0_1 = some r) ∧ Aside0 (kq ≤ k1) ∧ Aside0 (Kd.R (Kd.int .i64) 3 w' w.heap.size (fun k_ => some k_ ≠ (v796 : Value).ownBlock ∧ some k_ ≠ ((.slice (some ⟨go23, 0, none⟩) x7_1.length co15) : Value).ownBlock ∧ some k_ ≠ (v9 : Value).ownBlock) v793 t792) ∧ Aside0 (Kd.R (Kd.int .i64) 3 w' w.heap.size (fun k_ => some k_ ≠ (v793 : Value).ownBlock ∧ some k_ ≠ ((.slice (some ⟨go23, 0, none⟩) x7_1.length co15) : Value).ownBlock ∧ some k_ ≠ (v9 : Value).ownBlock) v796 t795) ∧ Aside0 (Kd.R (Kd.int .i64) 3 w' w.heap.size (fun k_ => some k_ ≠ (v793 : Value).ownBlock ∧ some k_ ≠ (v796 : Value).ownBlock ∧ some k_ ≠ (v9 : Value).ownBlock) (.slice (some ⟨go23, 0, none⟩) x7_1.length co15) x7_2) ∧ Aside0 (Kd.R (Kd.int .i64) 3 w' w.heap.size (fun k_ => some k_ ≠ (v793 : Value).ownBlock ∧ some k_ ≠ (v796 : Value).ownBlock ∧ some k_ ≠ ((.slice (some ⟨go23, 0, none⟩) x7_1.length co15) : Value).ownBlock) v9 x9_2) ∧ Aside0 (w'.heap[gb791]? = some (.cells #[(.slice A0_0 l0_0.length c0_0), (.slice A0_1 l0_1.length c0_1)] 33 (0, 0))) ∧ Aside0 (Below w.heap.size w w'))
    case atStart => exact ⟨(y802), (y803), (0), qc_, H', ⟨nA_ _⟩, ⟨by (try simp only [hl7_1]); (with_reducible repeat (first | apply rA_ | apply rB_ | apply rC_)); exact Kd.R_mono HO_5.out (fun _ hk => ⟨hk.1.1, ⟨hk.1.2, hk.2⟩⟩)⟩, ⟨by (try simp only [hl7_1]); (with_reducible repeat (first | apply rA_ | apply rB_ | apply rC_)); exact Kd.R_mono HO_6.out (fun _ hk => ⟨hk.1.1, ⟨hk.1.2, hk.2⟩⟩)⟩, ⟨by (try simp only [hl7_1]); (with_reducible repeat (first | apply rA_ | apply rB_ | apply rC_)); exact Kd.R_mono HO_7.out (fun _ hk => ⟨hk.1.1, ⟨hk.1.2, hk.2⟩⟩)⟩, ⟨by (try simp only [hl7_1]); (with_reducible repeat (first | apply rA_ | apply rB_ | apply rC_)); exact Kd.R_mono HO805.out (fun _ hk => ⟨hk.1.1.2, ⟨hk.1.2, hk.2⟩⟩)⟩, ⟨by (try simp only [hl7_1]); (with_reducible repeat (first | refine kA_ ?_ _ | refine kB_ ?_ | refine kC_ ?_ _)); exact BK791.out⟩, ⟨hB_⟩⟩
    case round =>
     clear H'
     obtain ⟨x7_2, x9_2, x10_2, rfl, HA, HK2, HO_5, HO_6, HO_7, HO_9, BK791, HB⟩ := hrel
     have hl7_2 := (Kd.R_reads' HO_7.out).1
     rw [hl7_2] at HO_7
     (try simp only [hl7_2])
     (try simp only [hl7_2] at BK791)
     (try simp only [hl7_2] at HO_5)
     (try simp only [hl7_2] at HO_6)
     (try simp only [hl7_2] at HO_9)
     cases gk with
     | zero => exact absurd HA.out (by simp [Z58.l1])
     | succ k2 =>
      have H := HA.out
      clear HA
      simp only [Z58.l1] at H
      by_cases c28 : x10_2 < (x9_2.length : Int)
      ·rw [if_pos c28] at H
       have c28b0 := oC_ c28
       clear c28
       have c29 := cp_ H
       replace H := ca_ H
       have c29b0 := oC_ c29
       clear c29
       have c30 := cp_ H
       replace H := ca_ H
       have c30b0 := oC_ c30
       clear c30
       have c31 := cp_ H
       replace H := ca_ H
       have c31b0 := oC_ c31
       clear c31
       have c32 := cp_ H
       replace H := ca_ H
       have c32b0 := oC_ c32
       clear c32
       have c33 := cp_ H
       replace H := ca_ H
       have c33b0 := oC_ c33
       clear c33
       have c34 := cp_ H
       replace H := ca_ H
       have c34b0 := oC_ c34
       clear c34
       have c35 := cp_ H
       replace H := ca_ H
       have c35b0 := oC_ c35
       clear c35
       have c36 := cp_ H
       replace H := ca_ H
       have c36b0 := oC_ c36
       clear c36
       obtain ⟨y813, hy813⟩ : ∃ y_ : List (S118), y_ = (([(⟨rd l0_0 (rd x9_2 x10_2), rd t792 (rd x7_2 (rd x9_2 x10_2))⟩ : S118), (⟨rd l0_1 (rd x9_2 x10_2), rd t795 (rd x7_2 (rd x9_2 x10_2))⟩ : S118)] : List (S118))) := ⟨_, rfl⟩
       replace H : (Z58.l2 k2 t792 t795 x7_2 x9_2 x10_2 y813 (y813.length : Int) 0 l0_0 l0_1) = some r := by first | (rw [hy813]; exact H) | exact H
       have Ny813 := A_ hy813
       clear hy813
       have H' := A_ H
       clear H
       obtain ⟨Ao37, co37, eo37⟩ := Kd.R_slice HO_9.out
       subst eo37
       have p806 : 0 ≤ (x10_2 : Int) := oB_ qe_
       have q806 : x10_2 < (x9_2.length : Int) := oB_ qe_
       obtain ⟨ad806, e806, hx806_0⟩ := Kd.at_int (Kd.R_reads' HO_9.out).2.2 x10_2 p806 q806
       cases e806
       replace p806 := eq_true p806
       replace q806 := eq_true q806
       try go_wp2
       replace HO_5 := A_ (rC_ HO_5.out)
       replace HO_6 := A_ (rC_ HO_6.out)
       replace HO_7 := A_ (rC_ HO_7.out)
       replace HO_9 := A_ (rC_ HO_9.out)
       replace BK791 := A_ (kB_ BK791.out)
       replace HB := A_ (bC_ HB.out)
       have p807 : 0 ≤ ((rd x9_2 x10_2) : Int) := oB_ qe_
       have q807 : (rd x9_2 x10_2) < (l0_0.length : Int) := oB_ qe_
       obtain ⟨ad807, e807, hx807_0⟩ := Kd.at_int HR0_0.out (rd x9_2 x10_2) p807 q807
       have hw807_0 := hx807_0
       cases e807
       replace hx807_0 := (HB.out.cell (World.block_lt_of_cell? w _ hx807_0)).trans hx807_0
       replace p807 := eq_true p807
       replace q807 := eq_true q807
       have p808 : 0 ≤ ((rd x9_2 x10_2) : Int) := oB_ qe_
       have q808 : (rd x9_2 x10_2) < (x7_2.length : Int) := oB_ qe_
       obtain ⟨ad808, e808, hx808_0⟩ := Kd.at_int (Kd.R_reads' HO_7.out).2.2 (rd x9_2 x10_2) p808 q808
       obtain rfl : (⟨go23, 0, none⟩ : Addr) = ad808 := (by injection e808)
       (first | simp only [add_plain] at hx808_0 | simp only [add_at] at hx808_0 | simp only [Addr.add, Nat.zero_add] at hx808_0 | skip)
       replace p808 := eq_true p808
       replace q808 := eq_true q808
       obtain ⟨Ao39, co39, eo39⟩ := Kd.R_slice HO_5.out
       (first | subst eo39 | (injection eo39 with f1_ f2_ f3_; have f4_ := f1_.symm; have f5_ := f3_.symm; clear f1_ f2_ f3_; subst f4_; subst f5_))
       have p809 : 0 ≤ ((rd x7_2 (rd x9_2 x10_2)) : Int) := oB_ qe_
       have q809 : (rd x7_2 (rd x9_2 x10_2)) < (t792.length : Int) := oB_ qe_
       obtain ⟨ad809, e809, hx809_0⟩ := Kd.at_int (Kd.R_reads' HO_5.out).2.2 (rd x7_2 (rd x9_2 x10_2)) p809 q809
       cases e809
       replace p809 := eq_true p809
       replace q809 := eq_true q809
       have p810 : 0 ≤ ((rd x9_2 x10_2) : Int) := oB_ qe_
       have q810 : (rd x9_2 x10_2) < (l0_1.length : Int) := oB_ qe_
       obtain ⟨ad810, e810, hx810_0⟩ := Kd.at_int HR0_1.out (rd x9_2 x10_2) p810 q810
       have hw810_0 := hx810_0
       cases e810
       replace hx810_0 := (HB.out.cell (World.block_lt_of_cell? w _ hx810_0)).trans hx810_0
       replace p810 := eq_true p810
       replace q810 := eq_true q810
       have p811 : 0 ≤ ((rd x9_2 x10_2) : Int) := oB_ qe_
       have q811 : (rd x9_2 x10_2) < (x7_2.length : Int) := oB_ qe_
       obtain ⟨ad811, e811, hx811_0⟩ := Kd.at_int (Kd.R_reads' HO_7.out).2.2 (rd x9_2 x10_2) p811 q811
       obtain rfl : (⟨go23, 0, none⟩ : Addr) = ad811 := (by injection e811)
       (first | simp only [add_plain] at hx811_0 | simp only [add_at] at hx811_0 | simp only [Addr.add, Nat.zero_add] at hx811_0 | skip)
       replace p811 := eq_true p811
       replace q811 := eq_true q811
       obtain ⟨Ao40, co40, eo40⟩ := Kd.R_slice HO_6.out
       (first | subst eo40 | (injection eo40 with f1_ f2_ f3_; have f4_ := f1_.symm; have f5_ := f3_.symm; clear f1_ f2_ f3_; subst f4_; subst f5_))
       have p812 : 0 ≤ ((rd x7_2 (rd x9_2 x10_2)) : Int) := oB_ qe_
       have q812 : (rd x7_2 (rd x9_2 x10_2)) < (t795.length : Int) := oB_ qe_
       obtain ⟨ad812, e812, hx812_0⟩ := Kd.at_int (Kd.R_reads' HO_6.out).2.2 (rd x7_2 (rd x9_2 x10_2)) p812 q812
       cases e812
       replace p812 := eq_true p812
       replace q812 := eq_true q812
       refine start_ (n := 29) (S := fun w' => w'.cell? ⟨gb791, 0, none⟩ = some (.slice (some ad807) l0_0.length c0_0) ∧ w'.cell? ⟨gb791, 1, none⟩ = some (.slice (some ad810) l0_1.length c0_1) ∧ w'.cell? (ad807.add ((rd x9_2 x10_2)).toNat) = some (.int .i64 (rd l0_0 (rd x9_2 x10_2))) ∧ w'.cell? ⟨go23, ((rd x9_2 x10_2)).toNat, none⟩ = some (.int .i64 (rd x7_2 (rd x9_2 x10_2))) ∧ w'.cell? (ad809.add ((rd x7_2 (rd x9_2 x10_2))).toNat) = some (.int .i64 (rd t792 (rd x7_2 (rd x9_2 x10_2)))) ∧ w'.cell? (ad810.add ((rd x9_2 x10_2)).toNat) = some (.int .i64 (rd l0_1 (rd x9_2 x10_2))) ∧ w'.cell? ⟨go23, ((rd x9_2 x10_2)).toNat, none⟩ = some (.int .i64 (rd x7_2 (rd x9_2 x10_2))) ∧ w'.cell? (ad812.add ((rd x7_2 (rd x9_2 x10_2))).toNat) = some (.int .i64 (rd t795 (rd x7_2 (rd x9_2 x10_2))))) (ds := []) (bl_ 29 0) (by kernel_rfl) rfl (by kernel_rfl) ⟨cz0_ BK791, cz1_ BK791, ((HB.out.cell (World.block_lt_of_cell? w _ hw807_0)).trans hw807_0), hx808_0, hx809_0, ((HB.out.cell (World.block_lt_of_cell? w _ hw810_0)).trans hw810_0), hx811_0, hx812_0⟩ (fun hHeld => ?_); refine with_tabW Z58.tab15 Z58.bits15 (fun HT_ HW_ => ?_)
       generalize wr.drew = w38 at HO_5 HO_6 HO_7 HO_9 BK791 HB hx807_0 hx808_0 hx809_0 hx810_0 hx811_0 hx812_0 hHeld ⊢
       refine pu_ 0 (some 47) (bl_ 29 1) HT_ ?_
       refine pu_ 2 (some 49) (bl_ 29 5) HT_ ?_
       refine pu_ 5 (some 52) (bl_ 29 37) HT_ ?_
       refine pu_ 6 (some 53) (bl_ 29 101) HT_ ?_
       refine pu_ 7 (some 54) (bl_ 29 229) HT_ ?_
       refine pu_ 8 (some 55) (bl_ 29 485) HT_ ?_
       refine pu_ 13 (some 60) (bl_ 29 8677) HT_ ?_
       refine pu_ 15 (some 62) (bl_ 29 41445) HT_ ?_
       refine pu_ 18 (some 65) (bl_ 29 303589) HT_ ?_
       refine pu_ 19 (some 66) (bl_ 29 827877) HT_ ?_
       refine pu_ 20 (some 67) (bl_ 29 1876453) HT_ ?_
       refine pu_ 21 (some 68) (bl_ 29 3973605) HT_ ?_
       refine pu_ 28 (some 75) (bl_ 29 272409061) HT_ ?_
       refine ta_ 1 (some 48) (bl_ 29 272409063) HT_ HW_ hHeld ?_
       refine pu_ 3 (some 50) (bl_ 29 272409071) HT_ ?_
       refine ta_ 4 (some 51) (bl_ 29 272409087) HT_ HW_ hHeld ?_
       refine ta_ 9 (some 56) (bl_ 29 272409599) HT_ HW_ hHeld ?_
       refine pu_ 10 (some 57) (bl_ 29 272410623) HT_ ?_
       refine ta_ 11 (some 58) (bl_ 29 272412671) HT_ HW_ hHeld ?_
       refine pu_ 12 (some 59) (bl_ 29 272416767) HT_ ?_
       refine ta_ 14 (some 61) (bl_ 29 272433151) HT_ HW_ hHeld ?_
       refine pu_ 16 (some 63) (bl_ 29 272498687) HT_ ?_
       refine ta_ 17 (some 64) (bl_ 29 272629759) HT_ HW_ hHeld ?_
       refine ta_ 22 (some 69) (bl_ 29 276824063) HT_ HW_ hHeld ?_
       refine pu_ 23 (some 70) (bl_ 29 285212671) HT_ ?_
       refine ta_ 24 (some 71) (bl_ 29 301989887) HT_ HW_ hHeld ?_
       refine pu_ 25 (some 72) (bl_ 29 335544319) HT_ ?_
       refine on_ 26 (some 73) (bl_ 29 402653183) HT_ (fun K hK => ?_)
       refine Kd.R_lit_step k118 _ 118 ?hg (N := 73) ?hd (xs := ([(⟨rd l0_0 (rd x9_2 x10_2), rd t792 (rd x7_2 (rd x9_2 x10_2))⟩ : S118), (⟨rd l0_1 (rd x9_2 x10_2), rd t795 (rd x7_2 (rd x9_2 x10_2))⟩ : S118)] : List (S118))) (inner := [.int .i64 (rd l0_0 (rd x9_2 x10_2)), .int .i64 (rd t792 (rd x7_2 (rd x9_2 x10_2))), .int .i64 (rd l0_1 (rd x9_2 x10_2)), .int .i64 (rd t795 (rd x7_2 (rd x9_2 x10_2)))]) (ok := fun _ => True) (okp := fun _ => True) ?hr ?hp (fun _ hk => hk) trivial (Below.refl _ _) (nA_ _) (by simp) ?_; (case hd => rfl); (case hg => rfl); (case hr => first | (go_simp; done) | (go_simp; rfl)); (case hp => exact (Reps.c2 (show Kd.M k118 _ _ _ (⟨rd l0_0 (rd x9_2 x10_2), rd t792 (rd x7_2 (rd x9_2 x10_2))⟩ : S118) [.int .i64 (rd l0_0 (rd x9_2 x10_2)), .int .i64 (rd t792 (rd x7_2 (rd x9_2 x10_2)))] from (k118_mkM _ _ _ (⟨rd l0_0 (rd x9_2 x10_2), rd t792 (rd x7_2 (rd x9_2 x10_2))⟩ : S118) )) (Reps.c2 (show Kd.M k118 _ _ _ (⟨rd l0_1 (rd x9_2 x10_2), rd t795 (rd x7_2 (rd x9_2 x10_2))⟩ : S118) [.int .i64 (rd l0_1 (rd x9_2 x10_2)), .int .i64 (rd t795 (rd x7_2 (rd x9_2 x10_2)))] from (k118_mkM _ _ _ (⟨rd l0_1 (rd x9_2 x10_2), rd t795 (rd x7_2 (rd x9_2 x10_2))⟩ : S118) )) (Reps.none _ _))))
       intro v814 w41 ho42 hb hg_ hnew_
       have HS3_ := (hb.cell (World.block_lt_of_cell? _ _ (hHeld.2.2.2.1))).trans (hHeld.2.2.2.1)
       have HS4_ := (hb.cell (World.block_lt_of_cell? _ _ (hHeld.2.2.2.2.1))).trans (hHeld.2.2.2.2.1)
       have HS6_ := (hb.cell (World.block_lt_of_cell? _ _ (hHeld.2.2.2.2.2.2.1))).trans (hHeld.2.2.2.2.2.2.1)
       have HS7_ := (hb.cell (World.block_lt_of_cell? _ _ (hHeld.2.2.2.2.2.2.2))).trans (hHeld.2.2.2.2.2.2.2)
       clear hg_ hnew_
       (first | rw [← Ny813.out] at ho42 | (simp only [Int.reduceToNat] at ho42; rw [← Ny813.out] at ho42))
       replace HO_5 := rb_ HO_5 hb
       replace HO_6 := rb_ HO_6 hb
       replace HO_7 := rb_ HO_7 hb
       replace HO_9 := rb_ HO_9 hb
       have HO815 := rl_ w ho42
       replace BK791 := bb_ BK791 hb
       replace HB := b1_ hb
       clear hb ho42
       obtain ⟨Ao43, co43, eo43⟩ := Kd.R_slice HO815.out
       (first | subst eo43 | (injection eo43 with f1_ f2_ f3_; have f4_ := f1_.symm; have f5_ := f3_.symm; clear f1_ f2_ f3_; subst f4_; subst f5_))
       refine hK.out _ _ ⟨cz0_ BK791, cz1_ BK791, ((HB.out.cell (World.block_lt_of_cell? w _ hw807_0)).trans hw807_0), HS3_, HS4_, ((HB.out.cell (World.block_lt_of_cell? w _ hw810_0)).trans hw810_0), HS6_, HS7_⟩ (fun hHeld => ?_)
       clear hK K
       refine no_ (some 73) ?_
       refine pu_ 27 (some 74) (bl_ 29 536870911) HT_ ?_
       refine done_ (done_of HT_.out (by kernel_rfl)) ?_
       try go_wp2
       go_loopg [9, 75] k2 (fun kq v9 v75 w' => ∃ (x7_3 : List Int) (x9_3 : List Int) (x75_3 : Int), v75 = .int .i64 x75_3 ∧ Aside0 (Z58.l2 kq t792 t795 x7_3 x9_3 x10_2 y813 (y813.length : Int) x75_3 l0_0 l0_1 = some r) ∧ Aside0 (kq ≤ k2) ∧ Aside0 (Kd.R (Kd.int .i64) 3 w' w.heap.size (fun k_ => some k_ ≠ ((.slice (some ad812) t795.length co40) : Value).ownBlock ∧ some k_ ≠ ((.slice (some ⟨go23, 0, none⟩) x7_2.length co15) : Value).ownBlock ∧ some k_ ≠ (v9 : Value).ownBlock) (.slice (some ad809) t792.length co39) t792) ∧ Aside0 (Kd.R (Kd.int .i64) 3 w' w.heap.size (fun k_ => some k_ ≠ ((.slice (some ad809) t792.length co39) : Value).ownBlock ∧ some k_ ≠ ((.slice (some ⟨go23, 0, none⟩) x7_2.length co15) : Value).ownBlock ∧ some k_ ≠ (v9 : Value).ownBlock) (.slice (some ad812) t795.length co40) t795) ∧ Aside0 (Kd.R (Kd.int .i64) 3 w' w.heap.size (fun k_ => some k_ ≠ ((.slice (some ad809) t792.length co39) : Value).ownBlock ∧ some k_ ≠ ((.slice (some ad812) t795.length co40) : Value).ownBlock ∧ some k_ ≠ (v9 : Value).ownBlock) (.slice (some ⟨go23, 0, none⟩) x7_2.length co15) x7_3) ∧ Aside0 (Kd.R (Kd.int .i64) 3 w' w.heap.size (fun k_ => some k_ ≠ ((.slice (some ad809) t792.length co39) : Value).ownBlock ∧ some k_ ≠ ((.slice (some ad812) t795.length co40) : Value).ownBlock ∧ some k_ ≠ ((.slice (some ⟨go23, 0, none⟩) x7_2.length co15) : Value).ownBlock) v9 x9_3) ∧ Aside0 (Kd.R k118 118 w' w.heap.size (fun _ => True) (.slice Ao43 y813.length co43) y813) ∧ Aside0 (w'.heap[gb791]? = some (.cells #[(.slice (some ad807) l0_0.length c0_0), (.slice (some ad810) l0_1.length c0_1)] 33 (0, 0))) ∧ Aside0 (Below w.heap.size w w'))
       case atStart => exact ⟨(x7_2), (x9_2), (0), qc_, H', ⟨nA_ _⟩, ⟨by (try simp only [hl7_1]); (try simp only [hl7_2]); (with_reducible repeat (first | apply rA_ | apply rB_ | apply rC_)); exact HO_5.out⟩, ⟨by (try simp only [hl7_1]); (try simp only [hl7_2]); (with_reducible repeat (first | apply rA_ | apply rB_ | apply rC_)); exact HO_6.out⟩, ⟨by (try simp only [hl7_1]); (try simp only [hl7_2]); (with_reducible repeat (first | apply rA_ | apply rB_ | apply rC_)); exact HO_7.out⟩, ⟨by (try simp only [hl7_1]); (try simp only [hl7_2]); (with_reducible repeat (first | apply rA_ | apply rB_ | apply rC_)); exact HO_9.out⟩, ⟨by (try simp only [hl7_1]); (try simp only [hl7_2]); (with_reducible repeat (first | apply rA_ | apply rB_ | apply rC_)); exact HO815.out⟩, ⟨by (try simp only [hl7_1]); (try simp only [hl7_2]); (with_reducible repeat (first | refine kA_ ?_ _ | refine kB_ ?_ | refine kC_ ?_ _)); exact BK791.out⟩, ⟨hB_⟩⟩
       case round =>
        clear H'
        obtain ⟨x7_3, x9_3, x75_3, rfl, HA, HK3, HO_5, HO_6, HO_7, HO_9, HO_73, BK791, HB⟩ := hrel
        have hl7_3 := (Kd.R_reads' HO_7.out).1
        rw [hl7_3] at HO_7
        (try simp only [hl7_3])
        (try simp only [hl7_3] at BK791)
        (try simp only [hl7_3] at HO_5)
        (try simp only [hl7_3] at HO_6)
        (try simp only [hl7_3] at HO_9)
        (try simp only [hl7_3] at HO_73)
        cases gk with
        | zero => exact absurd HA.out (by simp [Z58.l2])
        | succ k3 =>
         have H := HA.out
         clear HA
         simp only [Z58.l2] at H
         by_cases c44 : x75_3 < (y813.length : Int)
         ·rw [if_pos c44] at H
          have c44b0 := oC_ c44
          clear c44
          have c45 := cp_ H
          replace H := ca_ H
          have c45b0 := oC_ c45
          clear c45
          have c46 := cp_ H
          replace H := ca_ H
          have c46b0 := oC_ c46
          clear c46
          have c47 := cp_ H
          replace H := ca_ H
          have c47b0 := oC_ c47
          clear c47
          have c48 := cp_ H
          replace H := ca_ H
          have c48b0 := oC_ c48
          clear c48
          by_cases c49 : (rd x7_3 ((rd_T118 y813 x75_3).f0)) < 0
          ·rw [if_pos c49] at H
           have c49b0 := oC_ c49
           clear c49
           obtain ⟨y819, hy819⟩ : ∃ y_ : List Int, y_ = (x7_3.set (((rd_T118 y813 x75_3).f0) : Int).toNat ((rd_T118 y813 x75_3).f1)) := ⟨_, rfl⟩
           replace H : (if x9_3.length < 17592186044416 then (Z58.l2 k3 t792 t795 y819 (x9_3 ++ [(rd_T118 y813 x75_3).f0]) x10_2 y813 (y813.length : Int) (wrap64 (x75_3 + 1)) l0_0 l0_1) else (none)) = some r := by first | (rw [hy819]; exact H) | exact H
           have Ny819 := A_ hy819
           clear hy819
           have c51 := cp_ H
           replace H := ca_ H
           have LMc51 := A_ c51
           clear c51
           obtain ⟨y820, hy820⟩ : ∃ y_ : List Int, y_ = (x9_3 ++ [(rd_T118 y813 x75_3).f0]) := ⟨_, rfl⟩
           replace H : (Z58.l2 k3 t792 t795 y819 y820 x10_2 y813 (y813.length : Int) (wrap64 (x75_3 + 1)) l0_0 l0_1) = some r := by first | (rw [hy820]; exact H) | exact H
           have Ny820 := A_ hy820
           clear hy820
           have H' := A_ H
           clear H
           have p816 : 0 ≤ (x75_3 : Int) := oB_ qe_
           have q816 : x75_3 < (y813.length : Int) := oB_ qe_
           obtain ⟨ad816, e816, hx816_0, hx816_1⟩ := at_T118 (Kd.R_reads' HO_73.out).2.2 x75_3 p816 q816
           cases e816
           replace p816 := eq_true p816
           replace q816 := eq_true q816
           go_wp2_with (first | ((with_reducible refine gB_ (N := 13) rfl ?_); refine bx_ 13 #[.int .i64 0, .int .i64 0] 118 ?_; intro gb817 hg w52 hbox hb; replace HO_5 := rb_ HO_5 hb; replace HO_6 := rb_ HO_6 hb; replace HO_7 := rb_ HO_7 hb; replace HO_9 := rb_ HO_9 hb; replace HO_73 := A_ (rD_ (Kd.R_elderB (rr_ HO_73) gb817 (Nat.le_of_eq hg.symm)) hb); have BK817 := A_ hbox; have GW817 := gw_ w hg; have GE817 := GW817; replace HB := b1_ hb; have NB791_817 := gN_ BK791 hg; have NB817_791 := gP_ BK791 hg; replace BK791 := bb_ BK791 hb; clear hb hbox hg; have hnb53 := NB817_791.out; have hnc53 := NB791_817.out; obtain ⟨hcz54_0, hcz54_1, hfz54_0, hfz54_1⟩ := c2_ BK817) | ((with_reducible refine gate_store (t := 118) (p := 13) rfl ?_); refine store_event (t := 118) (p := 13) (v := ?vo_w55) (w1 := ((w52.setCell ⟨gb817, 0, none⟩ (.int .i64 ((rd_T118 y813 x75_3).f0))).setCell ⟨gb817, 1, none⟩ (.int .i64 ((rd_T118 y813 x75_3).f1)))) ?hg ?ho ?hn ?hr ?_; (case ho => rfl); (case hg => rfl); (case hn => rfl); (case hr => first | (go_simp; done) | (go_simp; rfl)); intro w55 hw; have n0_ : Aside0 (Kd.R (Kd.int .i64) 3 w55 w.heap.size (fun k_ => some k_ ≠ (.slice (some ad812) t795.length co40 : Value).ownBlock ∧ some k_ ≠ (.slice (some ⟨go23, 0, none⟩) x7_3.length co15 : Value).ownBlock ∧ some k_ ≠ (u9 : Value).ownBlock) (.slice (some ad809) t792.length co39) t792) := ⟨(by rw [hw]; exact (rw_ (Kd.R_mono (Kd.R_far (p := ⟨gb817, 1, none⟩) (Kd.R_far (p := ⟨gb817, 0, none⟩) (Kd.R_types HO_5.out BK817.out (by decide)) (fun _ hk => hk.2) (.int .i64 ((rd_T118 y813 x75_3).f0))) (fun _ hk => hk.2) (.int .i64 ((rd_T118 y813 x75_3).f1))) (fun _ hk => ⟨hk.1.1, ⟨hk.1.2.1, hk.1.2.2⟩⟩))))⟩; have n1_ : Aside0 (Kd.R (Kd.int .i64) 3 w55 w.heap.size (fun k_ => some k_ ≠ (.slice (some ad809) t792.length co39 : Value).ownBlock ∧ some k_ ≠ (.slice (some ⟨go23, 0, none⟩) x7_3.length co15 : Value).ownBlock ∧ some k_ ≠ (u9 : Value).ownBlock) (.slice (some ad812) t795.length co40) t795) := ⟨(by rw [hw]; exact (rw_ (Kd.R_mono (Kd.R_far (p := ⟨gb817, 1, none⟩) (Kd.R_far (p := ⟨gb817, 0, none⟩) (Kd.R_types HO_6.out BK817.out (by decide)) (fun _ hk => hk.2) (.int .i64 ((rd_T118 y813 x75_3).f0))) (fun _ hk => hk.2) (.int .i64 ((rd_T118 y813 x75_3).f1))) (fun _ hk => ⟨hk.1.1, ⟨hk.1.2.1, hk.1.2.2⟩⟩))))⟩; have n2_ : Aside0 (Kd.R (Kd.int .i64) 3 w55 w.heap.size (fun k_ => some k_ ≠ (.slice (some ad809) t792.length co39 : Value).ownBlock ∧ some k_ ≠ (.slice (some ad812) t795.length co40 : Value).ownBlock ∧ some k_ ≠ (u9 : Value).ownBlock) (.slice (some ⟨go23, 0, none⟩) x7_3.length co15) x7_3) := ⟨(by rw [hw]; exact (rw_ (Kd.R_mono (Kd.R_far (p := ⟨gb817, 1, none⟩) (Kd.R_far (p := ⟨gb817, 0, none⟩) (Kd.R_types HO_7.out BK817.out (by decide)) (fun _ hk => hk.2) (.int .i64 ((rd_T118 y813 x75_3).f0))) (fun _ hk => hk.2) (.int .i64 ((rd_T118 y813 x75_3).f1))) (fun _ hk => ⟨hk.1.1, ⟨hk.1.2.1, hk.1.2.2⟩⟩))))⟩; have n3_ : Aside0 (Kd.R (Kd.int .i64) 3 w55 w.heap.size (fun k_ => some k_ ≠ (.slice (some ad809) t792.length co39 : Value).ownBlock ∧ some k_ ≠ (.slice (some ad812) t795.length co40 : Value).ownBlock ∧ some k_ ≠ (.slice (some ⟨go23, 0, none⟩) x7_3.length co15 : Value).ownBlock) u9 x9_3) := ⟨(by rw [hw]; exact (rw_ (Kd.R_mono (Kd.R_far (p := ⟨gb817, 1, none⟩) (Kd.R_far (p := ⟨gb817, 0, none⟩) (Kd.R_types HO_9.out BK817.out (by decide)) (fun _ hk => hk.2) (.int .i64 ((rd_T118 y813 x75_3).f0))) (fun _ hk => hk.2) (.int .i64 ((rd_T118 y813 x75_3).f1))) (fun _ hk => ⟨hk.1.1, ⟨hk.1.2.1, hk.1.2.2⟩⟩))))⟩; have n4_ : Aside0 (Kd.R k118 118 w55 w.heap.size (fun k_ => k_ ≠ gb817) (.slice (some ad816) y813.length co43) y813) := ⟨(by rw [hw]; exact (rw_ (Kd.R_mono (Kd.R_far (p := ⟨gb817, 1, none⟩) (Kd.R_far (p := ⟨gb817, 0, none⟩) (Kd.R_mono HO_73.out (fun k_ hk => (⟨hk, hk.2⟩ : _ ∧ k_ ≠ gb817))) (fun _ hk => hk.2) (.int .i64 ((rd_T118 y813 x75_3).f0))) (fun _ hk => hk.2) (.int .i64 ((rd_T118 y813 x75_3).f1))) (fun _ hk => hk.1.2))))⟩; have n5_ : Aside0 (w55.heap[gb791]? = some (.cells #[.slice (some ad807) l0_0.length c0_0, .slice (some ad810) l0_1.length c0_1] 33 (0, 0))) := ⟨(by rw [hw]; exact (by (with_reducible repeat (first | refine kA_ ?_ _ | refine kB_ ?_ | refine kC_ ?_ _)); refine blk_far ?_ NB791_817.out _; (with_reducible repeat (first | refine kA_ ?_ _ | refine kB_ ?_ | refine kC_ ?_ _)); refine blk_far ?_ NB791_817.out _; (with_reducible repeat (first | refine kA_ ?_ _ | refine kB_ ?_ | refine kC_ ?_ _)); exact BK791.out))⟩; have n6_ : Aside0 (w55.heap[gb817]? = some (.cells #[.int .i64 ((rd_T118 y813 x75_3).f0), .int .i64 ((rd_T118 y813 x75_3).f1)] 118 (0, 0))) := ⟨(by rw [hw]; exact qp_)⟩; have n7_ : Aside0 (Below w.heap.size w w55) := ⟨(by rw [hw]; exact hB_)⟩; clear hw; clear HO_5; clear HO_6; clear HO_7; clear HO_9; clear HO_73; clear BK791; clear BK817; clear HB; have HO_5 := n0_; have HO_6 := n1_; have HO_7 := n2_; have HO_9 := n3_; have HO_73 := n4_; have BK791 := n5_; have BK817 := n6_; have HB := n7_; clear n0_ n1_ n2_ n3_ n4_ n5_ n6_ n7_; have hcz56_0 : w55.cell? ⟨gb817, 0, none⟩ = some (.int .i64 ((rd_T118 y813 x75_3).f0)) := cz0_ BK817; have hcz56_1 : w55.cell? ⟨gb817, 1, none⟩ = some (.int .i64 ((rd_T118 y813 x75_3).f1)) := cz1_ BK817; have hfz56_0 := kD_ BK817.out 0; have hfz56_1 := kD_ BK817.out 1; have p818 : 0 ≤ (((rd_T118 y813 x75_3).f0) : Int) := oB_ qe_; have q818 : ((rd_T118 y813 x75_3).f0) < (x7_3.length : Int) := oB_ qe_; obtain ⟨ad818, e818, hx818_0⟩ := Kd.at_int (Kd.R_reads' HO_7.out).2.2 ((rd_T118 y813 x75_3).f0) p818 q818; obtain rfl : (⟨go23, 0, none⟩ : Addr) = ad818 := (by injection e818); (first | simp only [add_plain] at hx818_0 | simp only [add_at] at hx818_0 | simp only [Addr.add, Nat.zero_add] at hx818_0 | skip); replace p818 := eq_true p818; replace q818 := eq_true q818; have p50 : 0 ≤ (((rd_T118 y813 x75_3).f0) : Int) := oB_ qe_; have q50 : (((rd_T118 y813 x75_3).f0) : Int) < ((x7_3.length : Int) : Int) := oB_ qe_; obtain ⟨hx50_0, hf50_0⟩ := Kd.R_celln 0 HO_7.out (((rd_T118 y813 x75_3).f0) : Int) p50 q50; replace p50 := eq_true p50; replace q50 := eq_true q50; obtain ⟨hy57_, hz57_⟩ := Kd.R_celln 0 HO_7.out (((rd_T118 y813 x75_3).f0) : Int) (oB_ qe_) (oB_ qe_); have HP57 := Kd.R_putg HO_7.out (((rd_T118 y813 x75_3).f0) : Int) ((rd_T118 y813 x75_3).f1)) | ((with_reducible refine gate_store (t := 3) (p := 90) rfl ?_); refine store_event (t := 3) (p := 90) (v := ?vo_w58) (w1 := (w55.setCell ⟨go23, (((rd_T118 y813 x75_3).f0) : Int).toNat, none⟩ (.int .i64 ((rd_T118 y813 x75_3).f1)))) ?hg ?ho ?hn ?hr ?_; (case ho => rfl); (case hg => rfl); (case hn => rfl); (case hr => first | (go_simp; done) | (go_simp; rfl)); intro w58 hw; have hg : w55.grownBy w58 (some go23) := (by rw [hw]; exact HP57.2); have hp_ : Kd.R (Kd.int .i64) 3 w58 w.heap.size (fun k_ => some k_ ≠ (.slice (some ad809) t792.length co39 : Value).ownBlock ∧ some k_ ≠ (.slice (some ad812) t795.length co40 : Value).ownBlock ∧ some k_ ≠ (u9 : Value).ownBlock) (.slice (some ⟨go23, 0, none⟩) x7_3.length co15) y819 := (by rw [hw, Ny819.out]; exact HP57.1); clear HP57; replace HO_5 := A_ (Kd.R_after (v := (.slice (some ⟨go23, 0, none⟩) x7_3.length co15)) (v1 := (.slice (some ⟨go23, 0, none⟩) x7_3.length co15)) (ok := (fun k_ => some k_ ≠ (.slice (some ad812) t795.length co40 : Value).ownBlock ∧ some k_ ≠ (u9 : Value).ownBlock)) (rw_ (Kd.R_mono HO_5.out (fun _ hk => ⟨⟨hk.1, hk.2.2⟩, hk.2.1⟩))) hg (.inl rfl)); replace HO_6 := A_ (Kd.R_after (v := (.slice (some ⟨go23, 0, none⟩) x7_3.length co15)) (v1 := (.slice (some ⟨go23, 0, none⟩) x7_3.length co15)) (ok := (fun k_ => some k_ ≠ (.slice (some ad809) t792.length co39 : Value).ownBlock ∧ some k_ ≠ (u9 : Value).ownBlock)) (rw_ (Kd.R_mono HO_6.out (fun _ hk => ⟨⟨hk.1, hk.2.2⟩, hk.2.1⟩))) hg (.inl rfl)); replace HO_9 := A_ (Kd.R_after (v := (.slice (some ⟨go23, 0, none⟩) x7_3.length co15)) (v1 := (.slice (some ⟨go23, 0, none⟩) x7_3.length co15)) (ok := (fun k_ => some k_ ≠ (.slice (some ad809) t792.length co39 : Value).ownBlock ∧ some k_ ≠ (.slice (some ad812) t795.length co40 : Value).ownBlock)) (rw_ (Kd.R_mono HO_9.out (fun _ hk => ⟨⟨hk.1, hk.2.1⟩, hk.2.2⟩))) hg (.inl rfl)); replace HO_73 := A_ (Kd.R_over' (v := (.slice (some ⟨go23, 0, none⟩) x7_3.length co15)) (rr_ HO_73) (Kd.R_typed HO_7.out) (by decide) hg); replace BK791 := A_ (blk_grown (kk_ BK791) hg (Kd.R_ne HO_7.out BK791.out (by decide))); replace BK817 := A_ (blk_grown (kk_ BK817) hg (Kd.R_ne HO_7.out BK817.out (by decide))); replace HO_7 := A_ (hp_); replace HB := A_ ((by rw [hw]; exact bD_ (HB.out) GB23.out : Below w.heap.size w w58)); clear hg hw hp_; have hcz59_0 : w58.cell? ⟨gb817, 0, none⟩ = some (.int .i64 ((rd_T118 y813 x75_3).f0)) := cz0_ BK817; have hcz59_1 : w58.cell? ⟨gb817, 1, none⟩ = some (.int .i64 ((rd_T118 y813 x75_3).f1)) := cz1_ BK817; have hfz59_0 := kD_ BK817.out 0; have hfz59_1 := kD_ BK817.out 1) | ((with_reducible refine gate_builtin (b := .append) (xs := #[.tmp 91, .tmp 94]) rfl ?_); at_builtin; refine Kd.R_append (Kd.int .i64) (w0 := w) w.heap.size rfl (.tmp 91) (.tmp 94) 23 3 (.int .i64 0) 8 rfl Try.underlying23 info3 rfl (by decide) (by omega) u9 x9_3 ((rd_T118 y813 x75_3).f0) [.int .i64 ((rd_T118 y813 x75_3).f0)] (fun k_ => some k_ ≠ (.slice (some ad809) t792.length co39 : Value).ownBlock ∧ some k_ ≠ (.slice (some ad812) t795.length co40 : Value).ownBlock ∧ some k_ ≠ (.slice (some ⟨go23, 0, none⟩) x7_3.length co15 : Value).ownBlock) (fun _ => False) rfl rfl ?aP (fun _ hk => hk.elim) ?aF ?aO ?aB ?aS ?aL ?_; (case aP => exact rfl); (case aB => exact hB_); (case aF => exact (fun k_ hk => ⟨Kd.fresh' (Kd.R_lt (rr_ HO_5)) k_ hk, Kd.fresh' (Kd.R_lt (rr_ HO_6)) k_ hk, Kd.fresh' (Kd.R_lt (rr_ HO_7)) k_ hk⟩)); (case aO => exact (rw_ (Kd.R_mono HO_9.out (fun _ hk => ⟨hk.1.1, ⟨hk.1.2, hk.2⟩⟩)))); (case aS => exact (bF_ hB_)); (case aL => have := LMc51.out; omega); intro v821 w60 ho hb hg hat; rw [← Ny820.out] at ho; replace HO_5 := A_ (Kd.R_after (ok := (fun k_ => some k_ ≠ (.slice (some ad812) t795.length co40 : Value).ownBlock ∧ some k_ ≠ (.slice (some ⟨go23, 0, none⟩) x7_3.length co15 : Value).ownBlock)) (rw_ (Kd.R_mono HO_5.out (fun _ hk => ⟨⟨hk.1.1, hk.2⟩, hk.1.2⟩))) hg hat); replace HO_6 := A_ (Kd.R_after (ok := (fun k_ => some k_ ≠ (.slice (some ad809) t792.length co39 : Value).ownBlock ∧ some k_ ≠ (.slice (some ⟨go23, 0, none⟩) x7_3.length co15 : Value).ownBlock)) (rw_ (Kd.R_mono HO_6.out (fun _ hk => ⟨⟨hk.1.1, hk.2⟩, hk.1.2⟩))) hg hat); replace HO_7 := A_ (Kd.R_after (ok := (fun k_ => some k_ ≠ (.slice (some ad809) t792.length co39 : Value).ownBlock ∧ some k_ ≠ (.slice (some ad812) t795.length co40 : Value).ownBlock)) (rw_ (Kd.R_mono HO_7.out (fun _ hk => ⟨⟨hk.1, hk.2.1⟩, hk.2.2⟩))) hg hat); replace HO_73 := A_ (Kd.R_over' (rr_ HO_73) (Kd.R_typed (rr_ HO_9)) (by decide) hg); replace BK791 := A_ (blk_grown (kk_ BK791) hg (Kd.R_ne HO_9.out BK791.out (by decide))); replace BK817 := A_ (blk_grown (kk_ BK817) hg (Kd.R_ne HO_9.out BK817.out (by decide))); replace HB := A_ hb; have HO822 := A_ ho; clear HO_9; clear ho hb hg hat))
           (try simp only [← hl7_3])
           go_roundg k3
           case measure => have := HK1.out; have := HK2.out; have := HK3.out; omega
           case rel => exact ⟨(y819), (y820), (wrap64 (x75_3 + 1)), qc_, H', ⟨by have := HK1.out; have := HK2.out; have := HK3.out; omega⟩, ⟨by (try simp only [hl7_1]); (try simp only [hl7_2]); (try simp only [hl7_3]); (with_reducible repeat (first | apply rA_ | apply rB_ | apply rC_)); exact Kd.R_mono HO_5.out (fun _ hk => ⟨hk.1.1, ⟨hk.1.2, hk.2⟩⟩)⟩, ⟨by (try simp only [hl7_1]); (try simp only [hl7_2]); (try simp only [hl7_3]); (with_reducible repeat (first | apply rA_ | apply rB_ | apply rC_)); exact Kd.R_mono HO_6.out (fun _ hk => ⟨hk.1.1, ⟨hk.1.2, hk.2⟩⟩)⟩, ⟨by (try simp only [hl7_1]); (try simp only [hl7_2]); (try simp only [hl7_3]); (with_reducible repeat (first | apply rA_ | apply rB_ | apply rC_)); exact Kd.R_mono HO_7.out (fun _ hk => ⟨hk.1.1, ⟨hk.1.2, hk.2⟩⟩)⟩, ⟨by (try simp only [hl7_1]); (try simp only [hl7_2]); (try simp only [hl7_3]); (with_reducible repeat (first | apply rA_ | apply rB_ | apply rC_)); exact HO822.out⟩, ⟨by (try simp only [hl7_1]); (try simp only [hl7_2]); (try simp only [hl7_3]); (with_reducible repeat (first | apply rA_ | apply rB_ | apply rC_)); exact Kd.R_mono HO_73.out (fun _ hk => trivial)⟩, ⟨by (try simp only [hl7_1]); (try simp only [hl7_2]); (try simp only [hl7_3]); (with_reducible repeat (first | refine kA_ ?_ _ | refine kB_ ?_ | refine kC_ ?_ _)); exact BK791.out⟩, ⟨hB_⟩⟩
          ·rw [if_neg c49] at H
           have c49b0 := oD_ c49
           clear c49
           have H' := A_ H
           clear H
           have p816 : 0 ≤ (x75_3 : Int) := oB_ qe_
           have q816 : x75_3 < (y813.length : Int) := oB_ qe_
           obtain ⟨ad816, e816, hx816_0, hx816_1⟩ := at_T118 (Kd.R_reads' HO_73.out).2.2 x75_3 p816 q816
           cases e816
           replace p816 := eq_true p816
           replace q816 := eq_true q816
           go_wp2_with (first | ((with_reducible refine gB_ (N := 13) rfl ?_); refine bx_ 13 #[.int .i64 0, .int .i64 0] 118 ?_; intro gb817 hg w61 hbox hb; replace HO_5 := rb_ HO_5 hb; replace HO_6 := rb_ HO_6 hb; replace HO_7 := rb_ HO_7 hb; replace HO_9 := rb_ HO_9 hb; replace HO_73 := A_ (rD_ (Kd.R_elderB (rr_ HO_73) gb817 (Nat.le_of_eq hg.symm)) hb); have BK817 := A_ hbox; have GW817 := gw_ w hg; have GE817 := GW817; replace HB := b1_ hb; have NB791_817 := gN_ BK791 hg; have NB817_791 := gP_ BK791 hg; replace BK791 := bb_ BK791 hb; clear hb hbox hg; have hnb62 := NB817_791.out; have hnc62 := NB791_817.out; obtain ⟨hcz63_0, hcz63_1, hfz63_0, hfz63_1⟩ := c2_ BK817; have p818 : 0 ≤ (((rd_T118 y813 x75_3).f0) : Int) := oB_ qe_; have q818 : ((rd_T118 y813 x75_3).f0) < (x7_3.length : Int) := oB_ qe_; obtain ⟨ad818, e818, hx818_0⟩ := Kd.at_int (Kd.R_reads' HO_7.out).2.2 ((rd_T118 y813 x75_3).f0) p818 q818; obtain rfl : (⟨go23, 0, none⟩ : Addr) = ad818 := (by injection e818); (first | simp only [add_plain] at hx818_0 | simp only [add_at] at hx818_0 | simp only [Addr.add, Nat.zero_add] at hx818_0 | skip); have hn818_0 : (⟨go23, 0, none⟩ : Addr).block ≠ gb817 := Kd.own_blk (Kd.R_ne HO_7.out BK817.out (by decide)); have hn818_1 : (⟨go23, 0, none⟩ : Addr).block ≠ gb817 := Kd.own_blk (Kd.R_ne HO_7.out BK817.out (by decide)); replace hx818_0 := (cell_far (p := ⟨gb817, 0, none⟩) (by first | (rw [add_block]; exact hn818_0) | (show (Addr.add _ _).block ≠ _; rw [add_block]; exact hn818_0) | exact hn818_0) (.int .i64 ((rd_T118 y813 x75_3).f0))).trans hx818_0; replace hx818_0 := (cell_far (p := ⟨gb817, 1, none⟩) (by first | (rw [add_block]; exact hn818_1) | (show (Addr.add _ _).block ≠ _; rw [add_block]; exact hn818_1) | exact hn818_1) (.int .i64 ((rd_T118 y813 x75_3).f1))).trans hx818_0; clear hn818_0; clear hn818_1; replace p818 := eq_true p818; replace q818 := eq_true q818))
           (try simp only [← hl7_3])
           go_roundg k3
           case measure => have := HK1.out; have := HK2.out; have := HK3.out; omega
           case rel => exact ⟨(x7_3), (x9_3), (wrap64 (x75_3 + 1)), qc_, H', ⟨by have := HK1.out; have := HK2.out; have := HK3.out; omega⟩, ⟨by (try simp only [hl7_1]); (try simp only [hl7_2]); (try simp only [hl7_3]); (with_reducible repeat (first | apply rA_ | apply rB_ | apply rC_)); exact Kd.R_mono (Kd.R_far (p := ⟨gb817, 1, none⟩) (Kd.R_far (p := ⟨gb817, 0, none⟩) (Kd.R_types HO_5.out BK817.out (by decide)) (fun _ hk => hk.2) (.int .i64 ((rd_T118 y813 x75_3).f0))) (fun _ hk => hk.2) (.int .i64 ((rd_T118 y813 x75_3).f1))) (fun _ hk => ⟨hk.1.1, ⟨hk.1.2.1, hk.1.2.2⟩⟩)⟩, ⟨by (try simp only [hl7_1]); (try simp only [hl7_2]); (try simp only [hl7_3]); (with_reducible repeat (first | apply rA_ | apply rB_ | apply rC_)); exact Kd.R_mono (Kd.R_far (p := ⟨gb817, 1, none⟩) (Kd.R_far (p := ⟨gb817, 0, none⟩) (Kd.R_types HO_6.out BK817.out (by decide)) (fun _ hk => hk.2) (.int .i64 ((rd_T118 y813 x75_3).f0))) (fun _ hk => hk.2) (.int .i64 ((rd_T118 y813 x75_3).f1))) (fun _ hk => ⟨hk.1.1, ⟨hk.1.2.1, hk.1.2.2⟩⟩)⟩, ⟨by (try simp only [hl7_1]); (try simp only [hl7_2]); (try simp only [hl7_3]); (with_reducible repeat (first | apply rA_ | apply rB_ | apply rC_)); exact Kd.R_mono (Kd.R_far (p := ⟨gb817, 1, none⟩) (Kd.R_far (p := ⟨gb817, 0, none⟩) (Kd.R_types HO_7.out BK817.out (by decide)) (fun _ hk => hk.2) (.int .i64 ((rd_T118 y813 x75_3).f0))) (fun _ hk => hk.2) (.int .i64 ((rd_T118 y813 x75_3).f1))) (fun _ hk => ⟨hk.1.1, ⟨hk.1.2.1, hk.1.2.2⟩⟩)⟩, ⟨by (try simp only [hl7_1]); (try simp only [hl7_2]); (try simp only [hl7_3]); (with_reducible repeat (first | apply rA_ | apply rB_ | apply rC_)); exact Kd.R_mono (Kd.R_far (p := ⟨gb817, 1, none⟩) (Kd.R_far (p := ⟨gb817, 0, none⟩) (Kd.R_types HO_9.out BK817.out (by decide)) (fun _ hk => hk.2) (.int .i64 ((rd_T118 y813 x75_3).f0))) (fun _ hk => hk.2) (.int .i64 ((rd_T118 y813 x75_3).f1))) (fun _ hk => ⟨hk.1.1, ⟨hk.1.2.1, hk.1.2.2⟩⟩)⟩, ⟨by (try simp only [hl7_1]); (try simp only [hl7_2]); (try simp only [hl7_3]); (with_reducible repeat (first | apply rA_ | apply rB_ | apply rC_)); exact Kd.R_mono (Kd.R_far (p := ⟨gb817, 1, none⟩) (Kd.R_far (p := ⟨gb817, 0, none⟩) (Kd.R_mono HO_73.out (fun k_ hk => (⟨hk, hk.2⟩ : _ ∧ k_ ≠ gb817))) (fun _ hk => hk.2) (.int .i64 ((rd_T118 y813 x75_3).f0))) (fun _ hk => hk.2) (.int .i64 ((rd_T118 y813 x75_3).f1))) (fun _ hk => trivial)⟩, ⟨by (try simp only [hl7_1]); (try simp only [hl7_2]); (try simp only [hl7_3]); (with_reducible repeat (first | refine kA_ ?_ _ | refine kB_ ?_ | refine kC_ ?_ _)); refine blk_far ?_ NB791_817.out _; (with_reducible repeat (first | refine kA_ ?_ _ | refine kB_ ?_ | refine kC_ ?_ _)); refine blk_far ?_ NB791_817.out _; (with_reducible repeat (first | refine kA_ ?_ _ | refine kB_ ?_ | refine kC_ ?_ _)); exact BK791.out⟩, ⟨hB_⟩⟩
         ·rw [if_neg c44] at H
          have c44b0 := oD_ c44
          clear c44
          have H' := A_ H
          clear H
          go_wp2
          (try simp only [← hl7_2, ← hl7_3])
          go_roundg k3
          case measure => have := HK1.out; have := HK2.out; have := HK3.out; omega
          case rel => exact ⟨(x7_3), (x9_3), (wrap64 (x10_2 + 1)), qc_, H', ⟨by have := HK1.out; have := HK2.out; have := HK3.out; omega⟩, ⟨by (try simp only [hl7_1]); (try simp only [hl7_2]); (try simp only [hl7_3]); (with_reducible repeat (first | apply rA_ | apply rB_ | apply rC_)); exact HO_5.out⟩, ⟨by (try simp only [hl7_1]); (try simp only [hl7_2]); (try simp only [hl7_3]); (with_reducible repeat (first | apply rA_ | apply rB_ | apply rC_)); exact HO_6.out⟩, ⟨by (try simp only [hl7_1]); (try simp only [hl7_2]); (try simp only [hl7_3]); (with_reducible repeat (first | apply rA_ | apply rB_ | apply rC_)); exact HO_7.out⟩, ⟨by (try simp only [hl7_1]); (try simp only [hl7_2]); (try simp only [hl7_3]); (with_reducible repeat (first | apply rA_ | apply rB_ | apply rC_)); exact HO_9.out⟩, ⟨by (try simp only [hl7_1]); (try simp only [hl7_2]); (try simp only [hl7_3]); (with_reducible repeat (first | refine kA_ ?_ _ | refine kB_ ?_ | refine kC_ ?_ _)); exact BK791.out⟩, ⟨hB_⟩⟩
      ·rw [if_neg c28] at H
       have c28b0 := oD_ c28
       clear c28
       obtain rfl := Option.some.inj H
       obtain ⟨Ao64, co64, eo64⟩ := Kd.R_slice HO_9.out
       subst eo64
       go_wp2
       go_ret
       exact ⟨_, qb_, (rw_ (Kd.R_mono HO_7.out (fun _ hk => trivial))), hB_⟩
end Go.Proofs.Ytoijcallajegfaa.A
end
section
namespace Go.Proofs.Ytoijcallajegfaa.A
open Go.RowKit Go.Proofs.YtoijcallajegfaaW.PrintWords Go.Proofs.YtoijcallajegfaaW.PrintLast Go.Proofs.YtoijcallajegfaaW.PrintMore
attribute [local go_sem] max2_int min2_int max_two min_two max_three min_three max_four min_four
set_option linter.unusedVariables false
set_option linter.unusedSimpArgs false
mutual
def Z55.j0 : Nat → List Int → Bool → List Int → List Int → Option (Bool)
 | 0, _, _, _, _ => none
 | k + 1, x1, x23, x824000, x824001 => if x23 = true then (some false) else ((Z17.f k x824000).bind fun t826 => ((Z17.f k x824001).bind fun t829 => (Z55.l0 k x1 t826 t829 (x1.length : Int) 0 x824000 x824001)))
def Z55.l0 : Nat → List Int → List Int → List Int → Int → Int → List Int → List Int → Option (Bool)
 | 0, _, _, _, _, _, _, _ => none
 | k + 1, x1, x5, x6, x31, x32, x824000, x824001 => if x32 < x31 then (if 0 ≤ x32 then (if x32 < (x824000.length : Int) then (if 0 ≤ (rd x824000 x32) then (if (rd x824000 x32) < (x1.length : Int) then (if x32 < (x1.length : Int) then (if 0 ≤ (rd x1 x32) then (if (rd x1 x32) < (x5.length : Int) then (if (rd x1 (rd x824000 x32)) = (rd x5 (rd x1 x32)) then (if x32 < (x824001.length : Int) then (if 0 ≤ (rd x824001 x32) then (if (rd x824001 x32) < (x1.length : Int) then (if (rd x1 x32) < (x6.length : Int) then (if (rd x1 (rd x824001 x32)) = (rd x6 (rd x1 x32)) then (Z55.l0 k x1 x5 x6 x31 (wrap64 (x32 + 1)) x824000 x824001) else (some false)) else (none)) else (none)) else (none)) else (none)) else (some false)) else (none)) else (none)) else (none)) else (none)) else (none)) else (none)) else (none)) else (some true)
end
def Z55.f (k : Nat) (l0_0 : List Int) (l0_1 : List Int) (l1 : List Int) : Option (Bool) := (Z31.f k l0_0 l0_1).bind fun t824 => (if t824 = true then ((Z56.f k l1).bind fun t825 => (if t825 = true then (Z55.j0 k l1 ((l1.length : Int) != (l0_0.length : Int)) l0_0 l0_1) else (Z55.j0 k l1 true l0_0 l0_1))) else (Z55.j0 k l1 true l0_0 l0_1))
theorem Z55.mono_l : ∀ k, (∀ y0 y1 y2 y3, LeO (Z55.j0 k y0 y1 y2 y3) (Z55.j0 (k + 1) y0 y1 y2 y3)) ∧ (∀ y0 y1 y2 y3 y4 y5 y6, LeO (Z55.l0 k y0 y1 y2 y3 y4 y5 y6) (Z55.l0 (k + 1) y0 y1 y2 y3 y4 y5 y6))
 | 0 => ⟨fun _ _ _ _ r h => by simp [Z55.j0] at h, fun _ _ _ _ _ _ _ r h => by simp [Z55.l0] at h⟩
 | k + 1 => by
  obtain ⟨ih0, ih1⟩ := Z55.mono_l k
  refine ⟨?_, ?_⟩
  ·intro y0 y1 y2 y3
   unfold Z55.j0
   repeat' first|exact ih0 _ _ _ _|exact ih1 _ _ _ _ _ _ _|exact Z17.mono _ _|exact Z56.mono _ _|exact Z31.mono _ _ _|exact lo_|refine LeO.ite ?_ ?_|refine LeO.bind ?_ (fun _ => ?_)
  ·intro y0 y1 y2 y3 y4 y5 y6
   unfold Z55.l0
   repeat' first|exact ih0 _ _ _ _|exact ih1 _ _ _ _ _ _ _|exact Z17.mono _ _|exact Z56.mono _ _|exact Z31.mono _ _ _|exact lo_|refine LeO.ite ?_ ?_|refine LeO.bind ?_ (fun _ => ?_)
theorem Z55.mono : ∀ a0 a1 a2 k, LeO (Z55.f k a0 a1 a2) (Z55.f (k + 1) a0 a1 a2) := by
 intro a0 a1 a2 k
 obtain ⟨ih0, ih1⟩ := Z55.mono_l k
 unfold Z55.f
 repeat' first|exact ih0 _ _ _ _|exact ih1 _ _ _ _ _ _ _|exact Z17.mono _ _|exact Z56.mono _ _|exact Z31.mono _ _ _|exact lo_|refine LeO.ite ?_ ?_|refine LeO.bind ?_ (fun _ => ?_)
set_option maxHeartbeats 8000000 in
set_option maxRecDepth 100000 in
theorem Z55.calls (k : Nat) (A0_0 : Option Addr) (c0_0 : Nat) (l0_0 : List Int) (A0_1 : Option Addr) (c0_1 : Nat) (l0_1 : List Int) (A1 : Option Addr) (c1 : Nat) (l1 : List Int) (r : Bool) (w : World) (hr0_0 : Kd.C (Kd.int .i64) w A0_0 l0_0.length l0_0) (hc0_0 : l0_0.length ≤ c0_0) (hr0_1 : Kd.C (Kd.int .i64) w A0_1 l0_1.length l0_1) (hc0_1 : l0_1.length ≤ c0_1) (hr1 : Kd.C (Kd.int .i64) w A1 l1.length l1) (hc1 : l1.length ≤ c1) (h : Z55.f k l0_0 l0_1 l1 = some r) :
  Calls Try.prog 76 #[.agg #[.slice A0_0 l0_0.length c0_0, .slice A0_1 l0_1.length c0_1], .slice A1 l1.length c1] w fun e w' => e = .returned (.bool r) ∧ Below w.heap.size w w' := by
 have hu33 := Try.underlying33
 have HR0_0 := A_ hr0_0
 have HC0_0 := A_ hc0_0
 clear hr0_0 hc0_0
 have HR0_1 := A_ hr0_1
 have HC0_1 := A_ hc0_1
 clear hr0_1 hc0_1
 have HR1 := A_ hr1
 have HC1 := A_ hc1
 clear hr1 hc1
 have HB := A_ (Below.refl w.heap.size w)
 have H := h
 unfold Z55.f at H
 clear h
 have HC3 := A_ H
 clear H
 go_enter Try.func76, Try.ntmps76
 go_upto_region 1 with (first | ((with_reducible refine gB_ (N := 2) rfl ?_); (try (refine gate_guard (by rfl) ?_; dsimp only)); refine bx_ 2 #[.slice A0_0 l0_0.length c0_0, .slice A0_1 l0_1.length c0_1] 33 ?_; intro gb823 hg w4 hbox hb; have BK823 := A_ hbox; have GW823 := gw_ w hg; have GE823 := GW823; replace HB := b1_ hb; clear hb hbox hg))
 repeat (go_quiet (first | ((with_reducible refine gB_ (N := 2) rfl ?_); (try (refine gate_guard (by rfl) ?_; dsimp only)); refine bx_ 2 #[.slice A0_0 l0_0.length c0_0, .slice A0_1 l0_1.length c0_1] 33 ?_; intro gb823 hg w4 hbox hb; have BK823 := A_ hbox; have GW823 := gw_ w hg; have GE823 := GW823; replace HB := b1_ hb; clear hb hbox hg)); go_upto_region 1 with (first | ((with_reducible refine gB_ (N := 2) rfl ?_); (try (refine gate_guard (by rfl) ?_; dsimp only)); refine bx_ 2 #[.slice A0_0 l0_0.length c0_0, .slice A0_1 l0_1.length c0_1] 33 ?_; intro gb823 hg w4 hbox hb; have BK823 := A_ hbox; have GW823 := gw_ w hg; have GE823 := GW823; replace HB := b1_ hb; clear hb hbox hg)))
 (try simp only [Act.put, sA_, sB_, sC_])
 go_cut [23] (fun v23 wc => ∃ (kq : Nat) (x23_2 : Bool), v23 = .bool x23_2 ∧ Aside0 (Z55.j0 kq l1 x23_2 l0_0 l0_1 = some r) ∧ Aside0 (kq ≤ k) ∧ Aside0 (wc.heap[gb823]? = some (.cells #[(.slice A0_0 l0_0.length c0_0), (.slice A0_1 l0_1.length c0_1)] 33 (0, 0))) ∧ Aside0 (Below w.heap.size w wc))
 case first =>
  have H := HC3.out
  clear HC3
  obtain ⟨t824, A5, H⟩ := bi_ H
  by_cases c6 : t824 = true
  ·subst c6
   rw [if_pos rfl] at H
   obtain ⟨t825, A7, H⟩ := bi_ H
   by_cases c8 : t825 = true
   ·subst c8
    rw [if_pos rfl] at H
    have H' := A_ H
    clear H
    obtain ⟨hcz9_0, hcz9_1, hfz9_0, hfz9_1⟩ := c2_ BK823
    go_wp2_with (first | (go_at_call 19; (with_reducible refine (Z31.calls k _ _ l0_0 _ _ l0_1 true _ (cb_ HR0_0) HC0_0.out (cb_ HR0_1) HC0_1.out A5.out).mono ?_); rintro e w10 ⟨rfl, hb⟩; replace BK823 := bb_ BK823 hb; replace HB := b1_ hb; clear hb) | (go_at_call 109; (with_reducible refine (Z56.calls k _ _ l1 true _ (cb_ HR1) HC1.out A7.out).mono ?_); rintro e w11 ⟨rfl, hb⟩; replace BK823 := bb_ BK823 hb; replace HB := b1_ hb; clear hb; obtain ⟨hcz12_0, hcz12_1, hfz12_0, hfz12_1⟩ := c2_ BK823))
    repeat (go_quiet (first | (go_at_call 19; (with_reducible refine (Z31.calls k _ _ l0_0 _ _ l0_1 true _ (cb_ HR0_0) HC0_0.out (cb_ HR0_1) HC0_1.out A5.out).mono ?_); rintro e w10 ⟨rfl, hb⟩; replace BK823 := bb_ BK823 hb; replace HB := b1_ hb; clear hb) | (go_at_call 109; (with_reducible refine (Z56.calls k _ _ l1 true _ (cb_ HR1) HC1.out A7.out).mono ?_); rintro e w11 ⟨rfl, hb⟩; replace BK823 := bb_ BK823 hb; replace HB := b1_ hb; clear hb; obtain ⟨hcz12_0, hcz12_1, hfz12_0, hfz12_1⟩ := c2_ BK823)); try go_wp2_with (first | (go_at_call 19; (with_reducible refine (Z31.calls k _ _ l0_0 _ _ l0_1 true _ (cb_ HR0_0) HC0_0.out (cb_ HR0_1) HC0_1.out A5.out).mono ?_); rintro e w10 ⟨rfl, hb⟩; replace BK823 := bb_ BK823 hb; replace HB := b1_ hb; clear hb) | (go_at_call 109; (with_reducible refine (Z56.calls k _ _ l1 true _ (cb_ HR1) HC1.out A7.out).mono ?_); rintro e w11 ⟨rfl, hb⟩; replace BK823 := bb_ BK823 hb; replace HB := b1_ hb; clear hb; obtain ⟨hcz12_0, hcz12_1, hfz12_0, hfz12_1⟩ := c2_ BK823)))
    go_meet
    case rel => exact ⟨_, (((l1.length : Int) != (l0_0.length : Int))), qc_, H', ⟨qd_⟩, ⟨(kk_ BK823)⟩, ⟨hB_⟩⟩
   ·replace c8 := Bool.eq_false_iff.mpr c8
    subst c8
    have H1 : (Z55.j0 k l1 true l0_0 l0_1) = some r := by rw [if_neg (show ¬ (false = true) by decide)] at H; exact H
    clear H
    have H := H1
    clear H1
    have H' := A_ H
    clear H
    obtain ⟨hcz13_0, hcz13_1, hfz13_0, hfz13_1⟩ := c2_ BK823
    go_wp2_with (first | (go_at_call 19; (with_reducible refine (Z31.calls k _ _ l0_0 _ _ l0_1 true _ (cb_ HR0_0) HC0_0.out (cb_ HR0_1) HC0_1.out A5.out).mono ?_); rintro e w14 ⟨rfl, hb⟩; replace BK823 := bb_ BK823 hb; replace HB := b1_ hb; clear hb) | (go_at_call 109; (with_reducible refine (Z56.calls k _ _ l1 false _ (cb_ HR1) HC1.out A7.out).mono ?_); rintro e w15 ⟨rfl, hb⟩; replace BK823 := bb_ BK823 hb; replace HB := b1_ hb; clear hb))
    repeat (go_quiet (first | (go_at_call 19; (with_reducible refine (Z31.calls k _ _ l0_0 _ _ l0_1 true _ (cb_ HR0_0) HC0_0.out (cb_ HR0_1) HC0_1.out A5.out).mono ?_); rintro e w14 ⟨rfl, hb⟩; replace BK823 := bb_ BK823 hb; replace HB := b1_ hb; clear hb) | (go_at_call 109; (with_reducible refine (Z56.calls k _ _ l1 false _ (cb_ HR1) HC1.out A7.out).mono ?_); rintro e w15 ⟨rfl, hb⟩; replace BK823 := bb_ BK823 hb; replace HB := b1_ hb; clear hb)); try go_wp2_with (first | (go_at_call 19; (with_reducible refine (Z31.calls k _ _ l0_0 _ _ l0_1 true _ (cb_ HR0_0) HC0_0.out (cb_ HR0_1) HC0_1.out A5.out).mono ?_); rintro e w14 ⟨rfl, hb⟩; replace BK823 := bb_ BK823 hb; replace HB := b1_ hb; clear hb) | (go_at_call 109; (with_reducible refine (Z56.calls k _ _ l1 false _ (cb_ HR1) HC1.out A7.out).mono ?_); rintro e w15 ⟨rfl, hb⟩; replace BK823 := bb_ BK823 hb; replace HB := b1_ hb; clear hb)))
    go_meet
    case rel => exact ⟨_, (true), qc_, H', ⟨qd_⟩, ⟨(kk_ BK823)⟩, ⟨hB_⟩⟩
  ·replace c6 := Bool.eq_false_iff.mpr c6
   subst c6
   have H1 : (Z55.j0 k l1 true l0_0 l0_1) = some r := by rw [if_neg (show ¬ (false = true) by decide)] at H; exact H
   clear H
   have H := H1
   clear H1
   have H' := A_ H
   clear H
   obtain ⟨hcz16_0, hcz16_1, hfz16_0, hfz16_1⟩ := c2_ BK823
   go_wp2_with (first | (go_at_call 19; (with_reducible refine (Z31.calls k _ _ l0_0 _ _ l0_1 false _ (cb_ HR0_0) HC0_0.out (cb_ HR0_1) HC0_1.out A5.out).mono ?_); rintro e w17 ⟨rfl, hb⟩; replace BK823 := bb_ BK823 hb; replace HB := b1_ hb; clear hb))
   repeat (go_quiet (first | (go_at_call 19; (with_reducible refine (Z31.calls k _ _ l0_0 _ _ l0_1 false _ (cb_ HR0_0) HC0_0.out (cb_ HR0_1) HC0_1.out A5.out).mono ?_); rintro e w17 ⟨rfl, hb⟩; replace BK823 := bb_ BK823 hb; replace HB := b1_ hb; clear hb)); try go_wp2_with (first | (go_at_call 19; (with_reducible refine (Z31.calls k _ _ l0_0 _ _ l0_1 false _ (cb_ HR0_0) HC0_0.out (cb_ HR0_1) HC0_1.out A5.out).mono ?_); rintro e w17 ⟨rfl, hb⟩; replace BK823 := bb_ BK823 hb; replace HB := b1_ hb; clear hb)))
   go_meet
   case rel => exact ⟨_, (true), qc_, H', ⟨qd_⟩, ⟨(kk_ BK823)⟩, ⟨hB_⟩⟩
 case rest =>
  clear HC3
  obtain ⟨kq, x23_2, rfl, HA, HJ2, BK823, HB⟩ := hcut
  cases kq with
  | zero => exact absurd HA.out (by simp [Z55.j0])
  | succ kj2 =>
   have H := HA.out
   clear HA
   simp only [Z55.j0] at H
   by_cases c18 : x23_2 = true
   ·subst c18
    rw [if_pos rfl] at H
    obtain rfl := Option.some.inj H
    go_wp2
    repeat (go_quiet (fail); try go_wp2)
    go_ret
    exact ⟨qb_, hB_⟩
   ·replace c18 := Bool.eq_false_iff.mpr c18
    subst c18
    have H1 : ((Z17.f kj2 l0_0).bind fun t826 => ((Z17.f kj2 l0_1).bind fun t829 => (Z55.l0 kj2 l1 t826 t829 (l1.length : Int) 0 l0_0 l0_1))) = some r := by rw [if_neg (show ¬ (false = true) by decide)] at H; exact H
    clear H
    have H := H1
    clear H1
    obtain ⟨t826, A19, H⟩ := bi_ H
    obtain ⟨t829, A20, H⟩ := bi_ H
    have H' := A_ H
    clear H
    obtain ⟨hcz21_0, hcz21_1, hfz21_0, hfz21_1⟩ := c2_ BK823
    go_wp2_with (first | (go_at_call 122; (with_reducible refine (Z17.calls kj2 _ _ l0_0 t826 _ (cb_ HR0_0) HC0_0.out A19.out).mono ?_); rintro e w22 ⟨v827, rfl, ho0, hb⟩; have HO828 := rl_ w ho0; replace BK823 := bb_ BK823 hb; replace HB := b1_ hb; clear hb ho0; obtain ⟨hcz23_0, hcz23_1, hfz23_0, hfz23_1⟩ := c2_ BK823) | (go_at_call 122; (with_reducible refine (Z17.calls kj2 _ _ l0_1 t829 _ (cb_ HR0_1) HC0_1.out A20.out).mono ?_); rintro e w24 ⟨v830, rfl, ho0, hb⟩; have HO831 := A_ (rE_ (Kd.R_new' ho0 (Kd.R_lt (rr_ HO828))) (bF_ hB_)); replace HO828 := A_ (Kd.R_elder' (rr_ HO828) (Kd.R_base ho0) hb); replace BK823 := bb_ BK823 hb; replace HB := b1_ hb; clear hb ho0))
    repeat (go_quiet (first | (go_at_call 122; (with_reducible refine (Z17.calls kj2 _ _ l0_0 t826 _ (cb_ HR0_0) HC0_0.out A19.out).mono ?_); rintro e w22 ⟨v827, rfl, ho0, hb⟩; have HO828 := rl_ w ho0; replace BK823 := bb_ BK823 hb; replace HB := b1_ hb; clear hb ho0; obtain ⟨hcz23_0, hcz23_1, hfz23_0, hfz23_1⟩ := c2_ BK823) | (go_at_call 122; (with_reducible refine (Z17.calls kj2 _ _ l0_1 t829 _ (cb_ HR0_1) HC0_1.out A20.out).mono ?_); rintro e w24 ⟨v830, rfl, ho0, hb⟩; have HO831 := A_ (rE_ (Kd.R_new' ho0 (Kd.R_lt (rr_ HO828))) (bF_ hB_)); replace HO828 := A_ (Kd.R_elder' (rr_ HO828) (Kd.R_base ho0) hb); replace BK823 := bb_ BK823 hb; replace HB := b1_ hb; clear hb ho0)); try go_wp2_with (first | (go_at_call 122; (with_reducible refine (Z17.calls kj2 _ _ l0_0 t826 _ (cb_ HR0_0) HC0_0.out A19.out).mono ?_); rintro e w22 ⟨v827, rfl, ho0, hb⟩; have HO828 := rl_ w ho0; replace BK823 := bb_ BK823 hb; replace HB := b1_ hb; clear hb ho0; obtain ⟨hcz23_0, hcz23_1, hfz23_0, hfz23_1⟩ := c2_ BK823) | (go_at_call 122; (with_reducible refine (Z17.calls kj2 _ _ l0_1 t829 _ (cb_ HR0_1) HC0_1.out A20.out).mono ?_); rintro e w24 ⟨v830, rfl, ho0, hb⟩; have HO831 := A_ (rE_ (Kd.R_new' ho0 (Kd.R_lt (rr_ HO828))) (bF_ hB_)); replace HO828 := A_ (Kd.R_elder' (rr_ HO828) (Kd.R_base ho0) hb); replace BK823 := bb_ BK823 hb; replace HB := b1_ hb; clear hb ho0)))
    go_loopg [32] kj2 (fun kq v32 w' => ∃ (x32_2 : Int), v32 = .int .i64 x32_2 ∧ Aside0 (Z55.l0 kq l1 t826 t829 (l1.length : Int) x32_2 l0_0 l0_1 = some r) ∧ Aside0 (kq ≤ kj2) ∧ Aside0 (Kd.R (Kd.int .i64) 3 w' w.heap.size (fun k_ => some k_ ≠ (v830 : Value).ownBlock) v827 t826) ∧ Aside0 (Kd.R (Kd.int .i64) 3 w' w.heap.size (fun k_ => some k_ ≠ (v827 : Value).ownBlock) v830 t829) ∧ Aside0 (w'.heap[gb823]? = some (.cells #[(.slice A0_0 l0_0.length c0_0), (.slice A0_1 l0_1.length c0_1)] 33 (0, 0))) ∧ Aside0 (Below w.heap.size w w'))
    case atStart => exact ⟨(0), qc_, H', ⟨nA_ _⟩, ⟨(rw_ (Kd.R_mono HO828.out (fun _ hk => hk.2)))⟩, ⟨(rw_ (Kd.R_mono HO831.out (fun _ hk => hk.2)))⟩, ⟨(kk_ BK823)⟩, ⟨hB_⟩⟩
    case round =>
     clear H'
     obtain ⟨x32_2, rfl, HA, HK2, HO_5, HO_6, BK823, HB⟩ := hrel
     cases gk with
     | zero => exact absurd HA.out (by simp [Z55.l0])
     | succ k2 =>
      have H := HA.out
      clear HA
      simp only [Z55.l0] at H
      by_cases c25 : x32_2 < (l1.length : Int)
      ·rw [if_pos c25] at H
       have c25b0 := oC_ c25
       clear c25
       have c26 := cp_ H
       replace H := ca_ H
       have c26b0 := oC_ c26
       clear c26
       have c27 := cp_ H
       replace H := ca_ H
       have c27b0 := oC_ c27
       clear c27
       have c28 := cp_ H
       replace H := ca_ H
       have c28b0 := oC_ c28
       clear c28
       have c29 := cp_ H
       replace H := ca_ H
       have c29b0 := oC_ c29
       clear c29
       have c30 := cp_ H
       replace H := ca_ H
       have c30b0 := oC_ c30
       clear c30
       have c31 := cp_ H
       replace H := ca_ H
       have c31b0 := oC_ c31
       clear c31
       have c32 := cp_ H
       replace H := ca_ H
       have c32b0 := oC_ c32
       clear c32
       by_cases c33 : (rd l1 (rd l0_0 x32_2)) = (rd t826 (rd l1 x32_2))
       ·rw [if_pos c33] at H
        have c33b0 : ((rd l1 (rd l0_0 x32_2)) == (rd t826 (rd l1 x32_2))) = true := beq_iff_eq.mpr c33
        have c33b1 : ((rd l1 (rd l0_0 x32_2)) != (rd t826 (rd l1 x32_2))) = false := bne_eq_false_iff_eq.mpr c33
        clear c33
        have c34 := cp_ H
        replace H := ca_ H
        have c34b0 := oC_ c34
        clear c34
        have c35 := cp_ H
        replace H := ca_ H
        have c35b0 := oC_ c35
        clear c35
        have c36 := cp_ H
        replace H := ca_ H
        have c36b0 := oC_ c36
        clear c36
        have c37 := cp_ H
        replace H := ca_ H
        have c37b0 := oC_ c37
        clear c37
        by_cases c38 : (rd l1 (rd l0_1 x32_2)) = (rd t829 (rd l1 x32_2))
        ·rw [if_pos c38] at H
         have c38b0 : ((rd l1 (rd l0_1 x32_2)) == (rd t829 (rd l1 x32_2))) = true := beq_iff_eq.mpr c38
         have c38b1 : ((rd l1 (rd l0_1 x32_2)) != (rd t829 (rd l1 x32_2))) = false := bne_eq_false_iff_eq.mpr c38
         clear c38
         have H' := A_ H
         clear H
         obtain ⟨hcz39_0, hcz39_1, hfz39_0, hfz39_1⟩ := c2_ BK823
         have p832 : 0 ≤ (x32_2 : Int) := oB_ qe_
         have q832 : x32_2 < (l0_0.length : Int) := oB_ qe_
         obtain ⟨ad832, e832, hx832_0⟩ := Kd.at_int HR0_0.out x32_2 p832 q832
         cases e832
         replace hx832_0 := (HB.out.cell (World.block_lt_of_cell? w _ hx832_0)).trans hx832_0
         replace p832 := eq_true p832
         replace q832 := eq_true q832
         have p833 : 0 ≤ ((rd l0_0 x32_2) : Int) := oB_ qe_
         have q833 : (rd l0_0 x32_2) < (l1.length : Int) := oB_ qe_
         obtain ⟨ad833, e833, hx833_0⟩ := Kd.at_int HR1.out (rd l0_0 x32_2) p833 q833
         cases e833
         replace hx833_0 := (HB.out.cell (World.block_lt_of_cell? w _ hx833_0)).trans hx833_0
         replace p833 := eq_true p833
         replace q833 := eq_true q833
         have p834 : 0 ≤ (x32_2 : Int) := oB_ qe_
         have q834 : x32_2 < (l1.length : Int) := oB_ qe_
         obtain ⟨ad834, e834, hx834_0⟩ := Kd.at_int HR1.out x32_2 p834 q834
         obtain rfl : ad833 = ad834 := (by injection e834)
         replace hx834_0 := (HB.out.cell (World.block_lt_of_cell? w _ hx834_0)).trans hx834_0
         replace p834 := eq_true p834
         replace q834 := eq_true q834
         obtain ⟨Ao40, co40, eo40⟩ := Kd.R_slice HO_5.out
         subst eo40
         have p835 : 0 ≤ ((rd l1 x32_2) : Int) := oB_ qe_
         have q835 : (rd l1 x32_2) < (t826.length : Int) := oB_ qe_
         obtain ⟨ad835, e835, hx835_0⟩ := Kd.at_int (Kd.R_reads' HO_5.out).2.2 (rd l1 x32_2) p835 q835
         cases e835
         replace p835 := eq_true p835
         replace q835 := eq_true q835
         have p836 : 0 ≤ (x32_2 : Int) := oB_ qe_
         have q836 : x32_2 < (l0_1.length : Int) := oB_ qe_
         obtain ⟨ad836, e836, hx836_0⟩ := Kd.at_int HR0_1.out x32_2 p836 q836
         cases e836
         replace hx836_0 := (HB.out.cell (World.block_lt_of_cell? w _ hx836_0)).trans hx836_0
         replace p836 := eq_true p836
         replace q836 := eq_true q836
         have p837 : 0 ≤ ((rd l0_1 x32_2) : Int) := oB_ qe_
         have q837 : (rd l0_1 x32_2) < (l1.length : Int) := oB_ qe_
         obtain ⟨ad837, e837, hx837_0⟩ := Kd.at_int HR1.out (rd l0_1 x32_2) p837 q837
         obtain rfl : ad833 = ad837 := (by injection e837)
         replace hx837_0 := (HB.out.cell (World.block_lt_of_cell? w _ hx837_0)).trans hx837_0
         replace p837 := eq_true p837
         replace q837 := eq_true q837
         have p838 : 0 ≤ (x32_2 : Int) := oB_ qe_
         have q838 : x32_2 < (l1.length : Int) := oB_ qe_
         obtain ⟨ad838, e838, hx838_0⟩ := Kd.at_int HR1.out x32_2 p838 q838
         obtain rfl : ad833 = ad838 := (by injection e838)
         replace hx838_0 := (HB.out.cell (World.block_lt_of_cell? w _ hx838_0)).trans hx838_0
         replace p838 := eq_true p838
         replace q838 := eq_true q838
         obtain ⟨Ao41, co41, eo41⟩ := Kd.R_slice HO_6.out
         subst eo41
         have p839 : 0 ≤ ((rd l1 x32_2) : Int) := oB_ qe_
         have q839 : (rd l1 x32_2) < (t829.length : Int) := oB_ qe_
         obtain ⟨ad839, e839, hx839_0⟩ := Kd.at_int (Kd.R_reads' HO_6.out).2.2 (rd l1 x32_2) p839 q839
         cases e839
         replace p839 := eq_true p839
         replace q839 := eq_true q839
         go_wp2
         repeat (go_quiet (fail); try go_wp2)
         go_roundg k2
         case measure => have := HJ2.out; have := HK2.out; omega
         case rel => exact ⟨(wrap64 (x32_2 + 1)), qc_, H', ⟨by have := HJ2.out; have := HK2.out; omega⟩, ⟨(rr_ HO_5)⟩, ⟨(rr_ HO_6)⟩, ⟨(kk_ BK823)⟩, ⟨hB_⟩⟩
        ·rw [if_neg c38] at H
         have c38b0 : ((rd l1 (rd l0_1 x32_2)) == (rd t829 (rd l1 x32_2))) = false := beq_eq_false_iff_ne.mpr c38
         have c38b1 : ((rd l1 (rd l0_1 x32_2)) != (rd t829 (rd l1 x32_2))) = true := bne_iff_ne.mpr c38
         obtain rfl := Option.some.inj H
         obtain ⟨hcz42_0, hcz42_1, hfz42_0, hfz42_1⟩ := c2_ BK823
         have p832 : 0 ≤ (x32_2 : Int) := oB_ qe_
         have q832 : x32_2 < (l0_0.length : Int) := oB_ qe_
         obtain ⟨ad832, e832, hx832_0⟩ := Kd.at_int HR0_0.out x32_2 p832 q832
         cases e832
         replace hx832_0 := (HB.out.cell (World.block_lt_of_cell? w _ hx832_0)).trans hx832_0
         replace p832 := eq_true p832
         replace q832 := eq_true q832
         have p833 : 0 ≤ ((rd l0_0 x32_2) : Int) := oB_ qe_
         have q833 : (rd l0_0 x32_2) < (l1.length : Int) := oB_ qe_
         obtain ⟨ad833, e833, hx833_0⟩ := Kd.at_int HR1.out (rd l0_0 x32_2) p833 q833
         cases e833
         replace hx833_0 := (HB.out.cell (World.block_lt_of_cell? w _ hx833_0)).trans hx833_0
         replace p833 := eq_true p833
         replace q833 := eq_true q833
         have p834 : 0 ≤ (x32_2 : Int) := oB_ qe_
         have q834 : x32_2 < (l1.length : Int) := oB_ qe_
         obtain ⟨ad834, e834, hx834_0⟩ := Kd.at_int HR1.out x32_2 p834 q834
         obtain rfl : ad833 = ad834 := (by injection e834)
         replace hx834_0 := (HB.out.cell (World.block_lt_of_cell? w _ hx834_0)).trans hx834_0
         replace p834 := eq_true p834
         replace q834 := eq_true q834
         obtain ⟨Ao43, co43, eo43⟩ := Kd.R_slice HO_5.out
         subst eo43
         have p835 : 0 ≤ ((rd l1 x32_2) : Int) := oB_ qe_
         have q835 : (rd l1 x32_2) < (t826.length : Int) := oB_ qe_
         obtain ⟨ad835, e835, hx835_0⟩ := Kd.at_int (Kd.R_reads' HO_5.out).2.2 (rd l1 x32_2) p835 q835
         cases e835
         replace p835 := eq_true p835
         replace q835 := eq_true q835
         have p836 : 0 ≤ (x32_2 : Int) := oB_ qe_
         have q836 : x32_2 < (l0_1.length : Int) := oB_ qe_
         obtain ⟨ad836, e836, hx836_0⟩ := Kd.at_int HR0_1.out x32_2 p836 q836
         cases e836
         replace hx836_0 := (HB.out.cell (World.block_lt_of_cell? w _ hx836_0)).trans hx836_0
         replace p836 := eq_true p836
         replace q836 := eq_true q836
         have p837 : 0 ≤ ((rd l0_1 x32_2) : Int) := oB_ qe_
         have q837 : (rd l0_1 x32_2) < (l1.length : Int) := oB_ qe_
         obtain ⟨ad837, e837, hx837_0⟩ := Kd.at_int HR1.out (rd l0_1 x32_2) p837 q837
         obtain rfl : ad833 = ad837 := (by injection e837)
         replace hx837_0 := (HB.out.cell (World.block_lt_of_cell? w _ hx837_0)).trans hx837_0
         replace p837 := eq_true p837
         replace q837 := eq_true q837
         have p838 : 0 ≤ (x32_2 : Int) := oB_ qe_
         have q838 : x32_2 < (l1.length : Int) := oB_ qe_
         obtain ⟨ad838, e838, hx838_0⟩ := Kd.at_int HR1.out x32_2 p838 q838
         obtain rfl : ad833 = ad838 := (by injection e838)
         replace hx838_0 := (HB.out.cell (World.block_lt_of_cell? w _ hx838_0)).trans hx838_0
         replace p838 := eq_true p838
         replace q838 := eq_true q838
         obtain ⟨Ao44, co44, eo44⟩ := Kd.R_slice HO_6.out
         subst eo44
         have p839 : 0 ≤ ((rd l1 x32_2) : Int) := oB_ qe_
         have q839 : (rd l1 x32_2) < (t829.length : Int) := oB_ qe_
         obtain ⟨ad839, e839, hx839_0⟩ := Kd.at_int (Kd.R_reads' HO_6.out).2.2 (rd l1 x32_2) p839 q839
         cases e839
         replace p839 := eq_true p839
         replace q839 := eq_true q839
         go_wp2
         repeat (go_quiet (fail); try go_wp2)
         go_ret
         exact ⟨qb_, hB_⟩
       ·rw [if_neg c33] at H
        have c33b0 : ((rd l1 (rd l0_0 x32_2)) == (rd t826 (rd l1 x32_2))) = false := beq_eq_false_iff_ne.mpr c33
        have c33b1 : ((rd l1 (rd l0_0 x32_2)) != (rd t826 (rd l1 x32_2))) = true := bne_iff_ne.mpr c33
        obtain rfl := Option.some.inj H
        obtain ⟨hcz45_0, hcz45_1, hfz45_0, hfz45_1⟩ := c2_ BK823
        have p832 : 0 ≤ (x32_2 : Int) := oB_ qe_
        have q832 : x32_2 < (l0_0.length : Int) := oB_ qe_
        obtain ⟨ad832, e832, hx832_0⟩ := Kd.at_int HR0_0.out x32_2 p832 q832
        cases e832
        replace hx832_0 := (HB.out.cell (World.block_lt_of_cell? w _ hx832_0)).trans hx832_0
        replace p832 := eq_true p832
        replace q832 := eq_true q832
        have p833 : 0 ≤ ((rd l0_0 x32_2) : Int) := oB_ qe_
        have q833 : (rd l0_0 x32_2) < (l1.length : Int) := oB_ qe_
        obtain ⟨ad833, e833, hx833_0⟩ := Kd.at_int HR1.out (rd l0_0 x32_2) p833 q833
        cases e833
        replace hx833_0 := (HB.out.cell (World.block_lt_of_cell? w _ hx833_0)).trans hx833_0
        replace p833 := eq_true p833
        replace q833 := eq_true q833
        have p834 : 0 ≤ (x32_2 : Int) := oB_ qe_
        have q834 : x32_2 < (l1.length : Int) := oB_ qe_
        obtain ⟨ad834, e834, hx834_0⟩ := Kd.at_int HR1.out x32_2 p834 q834
        obtain rfl : ad833 = ad834 := (by injection e834)
        replace hx834_0 := (HB.out.cell (World.block_lt_of_cell? w _ hx834_0)).trans hx834_0
        replace p834 := eq_true p834
        replace q834 := eq_true q834
        obtain ⟨Ao46, co46, eo46⟩ := Kd.R_slice HO_5.out
        subst eo46
        have p835 : 0 ≤ ((rd l1 x32_2) : Int) := oB_ qe_
        have q835 : (rd l1 x32_2) < (t826.length : Int) := oB_ qe_
        obtain ⟨ad835, e835, hx835_0⟩ := Kd.at_int (Kd.R_reads' HO_5.out).2.2 (rd l1 x32_2) p835 q835
        cases e835
        replace p835 := eq_true p835
        replace q835 := eq_true q835
        go_wp2
        repeat (go_quiet (fail); try go_wp2)
        go_ret
        exact ⟨qb_, hB_⟩
      ·rw [if_neg c25] at H
       have c25b0 := oD_ c25
       clear c25
       obtain rfl := Option.some.inj H
       go_wp2
       repeat (go_quiet (fail); try go_wp2)
       go_ret
       exact ⟨qb_, hB_⟩
end Go.Proofs.Ytoijcallajegfaa.A
end
section
namespace Go.Proofs.Ytoijcallajegfaa.A
open Go.RowKit Go.Proofs.YtoijcallajegfaaW.PrintWords Go.Proofs.YtoijcallajegfaaW.PrintLast Go.Proofs.YtoijcallajegfaaW.PrintMore
attribute [local go_sem] max2_int min2_int max_two min_two max_three min_three max_four min_four
set_option linter.unusedVariables false
set_option linter.unusedSimpArgs false
def Z48.l0 : Nat → List (List Int) → Int → Int → List Int → List Int → Option ((List (List Int)))
 | 0, _, _, _, _, _ => none
 | k + 1, x3, x12, x13, x841000, x841001 => if x13 < x12 then ((Z58.f k x841000 x841001 x13).bind fun t845 => ((Z55.f k x841000 x841001 t845).bind fun t848 => (if t848 = true then (if x3.length < 5864062014805 then (Z48.l0 k (x3 ++ [t845]) x12 (wrap64 (x13 + 1)) x841000 x841001) else (none)) else (Z48.l0 k x3 x12 (wrap64 (x13 + 1)) x841000 x841001)))) else (some x3)
def Z48.f (k : Nat) (l0_0 : List Int) (l0_1 : List Int) : Option ((List (List Int))) := (Z31.f k l0_0 l0_1).bind fun t841 => (if t841 = true then (Z48.l0 k (([] : List (List Int))) (l0_0.length : Int) 0 l0_0 l0_1) else (some ([] : List (List Int))))
theorem Z48.mono_l : ∀ k, (∀ y0 y1 y2 y3 y4, LeO (Z48.l0 k y0 y1 y2 y3 y4) (Z48.l0 (k + 1) y0 y1 y2 y3 y4))
 | 0 => fun _ _ _ _ _ r h => by simp [Z48.l0] at h
 | k + 1 => by
  have ih0 := Z48.mono_l k
  ·intro y0 y1 y2 y3 y4
   unfold Z48.l0
   repeat' first|exact ih0 _ _ _ _ _|exact Z55.mono _ _ _ _|exact Z31.mono _ _ _|exact Z58.mono _ _ _ _|exact lo_|refine LeO.ite ?_ ?_|refine LeO.bind ?_ (fun _ => ?_)
theorem Z48.mono : ∀ a0 a1 k, LeO (Z48.f k a0 a1) (Z48.f (k + 1) a0 a1) := by
 intro a0 a1 k
 have ih0 := Z48.mono_l k
 unfold Z48.f
 repeat' first|exact ih0 _ _ _ _ _|exact Z55.mono _ _ _ _|exact Z31.mono _ _ _|exact Z58.mono _ _ _ _|exact lo_|refine LeO.ite ?_ ?_|refine LeO.bind ?_ (fun _ => ?_)
set_option maxHeartbeats 8000000 in
set_option maxRecDepth 100000 in
theorem Z48.calls (k : Nat) (A0_0 : Option Addr) (c0_0 : Nat) (l0_0 : List Int) (A0_1 : Option Addr) (c0_1 : Nat) (l0_1 : List Int) (r : List (List Int)) (w : World) (hr0_0 : Kd.C (Kd.int .i64) w A0_0 l0_0.length l0_0) (hc0_0 : l0_0.length ≤ c0_0) (hr0_1 : Kd.C (Kd.int .i64) w A0_1 l0_1.length l0_1) (hc0_1 : l0_1.length ≤ c0_1) (h : Z48.f k l0_0 l0_1 = some r) :
  Calls Try.prog 30 #[.agg #[.slice A0_0 l0_0.length c0_0, .slice A0_1 l0_1.length c0_1]] w fun e w' => ∃ v0_ : Value, e = .returned (v0_) ∧ Kd.S (Kd.slice 3 (Kd.int .i64)) 23 w' w.heap.size (fun _ => True) v0_ r ∧ Below w.heap.size w w' := by
 have hu33 := Try.underlying33
 have HR0_0 := A_ hr0_0
 have HC0_0 := A_ hc0_0
 clear hr0_0 hc0_0
 have HR0_1 := A_ hr0_1
 have HC0_1 := A_ hc0_1
 clear hr0_1 hc0_1
 have HB := A_ (Below.refl w.heap.size w)
 have H := h
 unfold Z48.f at H
 clear h
 obtain ⟨t841, A2, H⟩ := bi_ H
 by_cases c3 : t841 = true
 ·subst c3
  rw [if_pos rfl] at H
  obtain ⟨y842, hy842⟩ : ∃ y_ : List (List Int), y_ = (([] : List (List Int))) := ⟨_, rfl⟩
  replace H : (Z48.l0 k y842 (l0_0.length : Int) 0 l0_0 l0_1) = some r := by first | (rw [hy842]; exact H) | exact H
  have Ny842 := A_ hy842
  clear hy842
  have H' := A_ H
  clear H
  go_enter Try.func30, Try.ntmps30
  go_wp2_with (first | ((with_reducible refine gB_ (N := 1) rfl ?_); refine bx_ 1 #[.slice A0_0 l0_0.length c0_0, .slice A0_1 l0_1.length c0_1] 33 ?_; intro gb840 hg w4 hbox hb; have BK840 := A_ hbox; have GW840 := gw_ w hg; have GE840 := GW840; replace HB := b1_ hb; clear hb hbox hg; obtain ⟨hcz5_0, hcz5_1, hfz5_0, hfz5_1⟩ := c2_ BK840) | ((with_reducible refine gA_ (f := 19) rfl ?_); refine gL_ (some 7) Try.func19 #[.agg #[.slice A0_0 l0_0.length c0_0, .slice A0_1 l0_1.length c0_1]] rfl qa_ ?_; (with_reducible refine (Z31.calls k _ _ l0_0 _ _ l0_1 true _ (cb_ HR0_0) HC0_0.out (cb_ HR0_1) HC0_1.out A2.out).mono ?_); rintro e w6 ⟨rfl, hb⟩; refine ⟨_, rfl, ?_⟩; replace BK840 := bb_ BK840 hb; replace HB := b1_ hb; clear hb) | ((with_reducible refine gB_ (N := 9) rfl ?_); refine Kd.S_lit (Kd.slice 3 (Kd.int .i64)) _ 23 ?hg (N := 9) ?hd (xs := ([] : List (List Int))) (inner := []) (ok := fun _ => True) (okp := fun _ => True) ?hr ?hp (fun _ hk => hk) trivial (Below.refl _ _) (nA_ _) (by simp) ?_; (case hd => rfl); (case hg => rfl); (case hr => first | (go_simp; done) | (go_simp; rfl)); (case hp => exact (Reps.none _ _)); intro v843 w7 ho8 hb hg_ hnew_; clear hg_ hnew_; (first | rw [← Ny842.out] at ho8 | (simp only [Int.reduceToNat] at ho8; rw [← Ny842.out] at ho8)); have HO844 := A_ (Kd.S_lower ho8 (bF_ hB_)); replace BK840 := bb_ BK840 hb; replace HB := b1_ hb; clear hb ho8; obtain ⟨hcz9_0, hcz9_1, hfz9_0, hfz9_1⟩ := c2_ BK840))
  go_loopg [3, 13] k (fun kq v3 v13 w' => ∃ (x3_1 : List (List Int)) (x13_1 : Int), v13 = .int .i64 x13_1 ∧ Aside0 (Z48.l0 kq x3_1 (l0_0.length : Int) x13_1 l0_0 l0_1 = some r) ∧ Aside0 (kq ≤ k) ∧ Aside0 (Kd.S (Kd.slice 3 (Kd.int .i64)) 23 w' w.heap.size (fun _ => True) v3 x3_1) ∧ Aside0 (w'.heap[gb840]? = some (.cells #[(.slice A0_0 l0_0.length c0_0), (.slice A0_1 l0_1.length c0_1)] 33 (0, 0))) ∧ Aside0 (Below w.heap.size w w'))
  case atStart => exact ⟨(y842), (0), qc_, H', ⟨nA_ _⟩, ⟨(ss_ HO844)⟩, ⟨(kk_ BK840)⟩, ⟨hB_⟩⟩
  case round =>
   clear H'
   obtain ⟨x3_1, x13_1, rfl, HA, HK1, HO_3, BK840, HB⟩ := hrel
   cases gk with
   | zero => exact absurd HA.out (by simp [Z48.l0])
   | succ k1 =>
    have H := HA.out
    clear HA
    simp only [Z48.l0] at H
    by_cases c10 : x13_1 < (l0_0.length : Int)
    ·rw [if_pos c10] at H
     have c10b0 := oC_ c10
     clear c10
     obtain ⟨t845, A11, H⟩ := bi_ H
     obtain ⟨t848, A12, H⟩ := bi_ H
     by_cases c13 : t848 = true
     ·subst c13
      rw [if_pos rfl] at H
      have c14 := cp_ H
      replace H := ca_ H
      have LMc14 := A_ c14
      clear c14
      obtain ⟨y849, hy849⟩ : ∃ y_ : List (List Int), y_ = (x3_1 ++ [t845]) := ⟨_, rfl⟩
      replace H : (Z48.l0 k1 y849 (l0_0.length : Int) (wrap64 (x13_1 + 1)) l0_0 l0_1) = some r := by first | (rw [hy849]; exact H) | exact H
      have Ny849 := A_ hy849
      clear hy849
      have H' := A_ H
      clear H
      obtain ⟨hcz15_0, hcz15_1, hfz15_0, hfz15_1⟩ := c2_ BK840
      go_wp2_with (first | ((with_reducible refine gA_ (f := 75) rfl ?_); refine gL_ (some 18) Try.func75 #[.agg #[.slice A0_0 l0_0.length c0_0, .slice A0_1 l0_1.length c0_1], .int .i64 x13_1] rfl qa_ ?_; (with_reducible refine (Z58.calls k1 _ _ l0_0 _ _ l0_1 x13_1 t845 _ (cb_ HR0_0) HC0_0.out (cb_ HR0_1) HC0_1.out A11.out).mono ?_); rintro e w16 ⟨v846, rfl, ho0, hb⟩; refine ⟨_, rfl, ?_⟩; replace HO_3 := A_ (Kd.S_elder' (ss_ HO_3) (Kd.R_base ho0) hb); have HO847 := rl_ w ho0; replace BK840 := bb_ BK840 hb; replace HB := b1_ hb; clear hb ho0; obtain ⟨hcz17_0, hcz17_1, hfz17_0, hfz17_1⟩ := c2_ BK840; obtain ⟨Ao18, co18, eo18⟩ := Kd.R_slice HO847.out; subst eo18) | ((with_reducible refine gA_ (f := 76) rfl ?_); refine gL_ (some 21) Try.func76 #[.agg #[.slice A0_0 l0_0.length c0_0, .slice A0_1 l0_1.length c0_1], .slice Ao18 t845.length co18] rfl qa_ ?_; (with_reducible refine (Z55.calls k1 _ _ l0_0 _ _ l0_1 _ _ t845 true _ (cb_ HR0_0) HC0_0.out (cb_ HR0_1) HC0_1.out (cr_ HO847) ((Kd.R_reads' HO847.out).2.1) A12.out).mono ?_); rintro e w19 ⟨rfl, hb⟩; refine ⟨_, rfl, ?_⟩; replace HO_3 := sb_ HO_3 hb; replace HO847 := rb_ HO847 hb; replace BK840 := bb_ BK840 hb; replace HB := b1_ hb; clear hb) | ((with_reducible refine gate_builtin (b := .append) (xs := #[.tmp 22, .tmp 24]) rfl ?_); at_builtin; refine Kd.S_append (Kd.slice 3 (Kd.int .i64)) (w0 := w) w.heap.size rfl (.tmp 22) (.tmp 24) 28 23 (.slice none 0 0) 24 rfl Try.underlying28 info23 rfl (by decide) (by omega) u3 x3_1 t845 [.slice Ao18 t845.length co18] (fun _ => True) (fun k_ => some k_ = (.slice Ao18 t845.length co18 : Value).ownBlock) rfl rfl ?aP (fun k_ hk_ => ((Kd.R_mono (ok' := fun k_ => ((fun _ => True)) k_ ∧ some k_ ≠ (u3 : Value).ownBlock) (Kd.R_apart' (HO847.out) (Kd.S_typed HO_3.out) (by decide)) (fun k_ hk => ⟨trivial, hk.2⟩))).1 k_ hk_.symm) ?aF ?aO ?aB ?aS ?aL ?_; (case aP => exact Kd.M_row (Kd.R_mono (Kd.R_tight rfl (Kd.R_mono (ok' := fun k_ => ((fun _ => True)) k_ ∧ some k_ ≠ (u3 : Value).ownBlock) (Kd.R_apart' (HO847.out) (Kd.S_typed HO_3.out) (by decide)) (fun k_ hk => ⟨trivial, hk.2⟩))) (fun _ h_ => h_))); (case aB => exact hB_); (case aF => exact (fun _ _ => trivial)); (case aO => exact (sw_ (Kd.S_mono HO_3.out (fun k_ hk => ⟨trivial, fun e_ => hk.2 e_⟩)))); (case aS => exact (bF_ hB_)); (case aL => have := LMc14.out; omega); intro v850 w20 ho hb hg hat; rw [← Ny849.out] at ho; replace BK840 := A_ (blk_grown (kk_ BK840) hg (Kd.S_ne HO_3.out BK840.out (by decide))); replace HB := A_ hb; have HO851 := A_ ho; clear HO_3 HO847; clear ho hb hg hat))
      go_roundg k1
      case measure => have := HK1.out; omega
      case rel => exact ⟨(y849), (wrap64 (x13_1 + 1)), qc_, H', ⟨by have := HK1.out; omega⟩, ⟨(ss_ HO851)⟩, ⟨(kk_ BK840)⟩, ⟨hB_⟩⟩
     ·replace c13 := Bool.eq_false_iff.mpr c13
      subst c13
      have H1 : (Z48.l0 k1 x3_1 (l0_0.length : Int) (wrap64 (x13_1 + 1)) l0_0 l0_1) = some r := by rw [if_neg (show ¬ (false = true) by decide)] at H; exact H
      clear H
      have H := H1
      clear H1
      have H' := A_ H
      clear H
      obtain ⟨hcz21_0, hcz21_1, hfz21_0, hfz21_1⟩ := c2_ BK840
      go_wp2_with (first | ((with_reducible refine gA_ (f := 75) rfl ?_); refine gL_ (some 18) Try.func75 #[.agg #[.slice A0_0 l0_0.length c0_0, .slice A0_1 l0_1.length c0_1], .int .i64 x13_1] rfl qa_ ?_; (with_reducible refine (Z58.calls k1 _ _ l0_0 _ _ l0_1 x13_1 t845 _ (cb_ HR0_0) HC0_0.out (cb_ HR0_1) HC0_1.out A11.out).mono ?_); rintro e w22 ⟨v846, rfl, ho0, hb⟩; refine ⟨_, rfl, ?_⟩; replace HO_3 := A_ (Kd.S_elder' (ss_ HO_3) (Kd.R_base ho0) hb); have HO847 := rl_ w ho0; replace BK840 := bb_ BK840 hb; replace HB := b1_ hb; clear hb ho0; obtain ⟨hcz23_0, hcz23_1, hfz23_0, hfz23_1⟩ := c2_ BK840; obtain ⟨Ao24, co24, eo24⟩ := Kd.R_slice HO847.out; subst eo24) | ((with_reducible refine gA_ (f := 76) rfl ?_); refine gL_ (some 21) Try.func76 #[.agg #[.slice A0_0 l0_0.length c0_0, .slice A0_1 l0_1.length c0_1], .slice Ao24 t845.length co24] rfl qa_ ?_; (with_reducible refine (Z55.calls k1 _ _ l0_0 _ _ l0_1 _ _ t845 false _ (cb_ HR0_0) HC0_0.out (cb_ HR0_1) HC0_1.out (cr_ HO847) ((Kd.R_reads' HO847.out).2.1) A12.out).mono ?_); rintro e w25 ⟨rfl, hb⟩; refine ⟨_, rfl, ?_⟩; replace HO_3 := sb_ HO_3 hb; replace HO847 := rb_ HO847 hb; replace BK840 := bb_ BK840 hb; replace HB := b1_ hb; clear hb))
      go_roundg k1
      case measure => have := HK1.out; omega
      case rel => exact ⟨(x3_1), (wrap64 (x13_1 + 1)), qc_, H', ⟨by have := HK1.out; omega⟩, ⟨(sw_ (Kd.S_mono HO_3.out (fun _ hk => trivial)))⟩, ⟨(kk_ BK840)⟩, ⟨hB_⟩⟩
    ·rw [if_neg c10] at H
     have c10b0 := oD_ c10
     clear c10
     obtain rfl := Option.some.inj H
     go_wp2
     go_ret
     exact ⟨_, qb_, (ss_ HO_3), hB_⟩
 ·replace c3 := Bool.eq_false_iff.mpr c3
  subst c3
  have H1 : (some ([] : List (List Int))) = some r := by rw [if_neg (show ¬ (false = true) by decide)] at H; exact H
  clear H
  have H := H1
  clear H1
  obtain rfl := Option.some.inj H
  go_enter Try.func30, Try.ntmps30
  go_wp2_with (first | ((with_reducible refine gB_ (N := 1) rfl ?_); refine bx_ 1 #[.slice A0_0 l0_0.length c0_0, .slice A0_1 l0_1.length c0_1] 33 ?_; intro gb840 hg w26 hbox hb; have BK840 := A_ hbox; have GW840 := gw_ w hg; have GE840 := GW840; replace HB := b1_ hb; clear hb hbox hg; obtain ⟨hcz27_0, hcz27_1, hfz27_0, hfz27_1⟩ := c2_ BK840) | ((with_reducible refine gA_ (f := 19) rfl ?_); refine gL_ (some 7) Try.func19 #[.agg #[.slice A0_0 l0_0.length c0_0, .slice A0_1 l0_1.length c0_1]] rfl qa_ ?_; (with_reducible refine (Z31.calls k _ _ l0_0 _ _ l0_1 false _ (cb_ HR0_0) HC0_0.out (cb_ HR0_1) HC0_1.out A2.out).mono ?_); rintro e w28 ⟨rfl, hb⟩; refine ⟨_, rfl, ?_⟩; replace BK840 := bb_ BK840 hb; replace HB := b1_ hb; clear hb))
  go_ret
  exact ⟨_, qb_, by first | exact Kd.S_nil _ _ _ _ _ | exact Kd.N_nil _ _ _ _ _ | exact Kd.V_nil _ _ _ _ _ | exact Kd.Q_nil _ _ _ _ _ | exact Kd.R_nil _ _ _ _ _, hB_⟩
def Z59.j0 : Nat → Bool → List Int → List Int → List Int → List Int → Option (Bool)
 | 0, _, _, _, _, _ => none
 | k + 1, x24, x859000, x859001, x868000, x868001 => if x24 = true then (some false) else ((Z11.f k x868000 x868001).bind fun t869 => (if t869 = (x859000.length : Int) then ((Z35.f k x868000 x868001).bind fun t870 => ((Z35.f k x859000 x859001).bind fun t873 => ((Z67.f k t870 t873).bind fun t876 => (if t876 = true then ((Z30.f k x868000 x868001).bind fun t877 => ((Z30.f k x859000 x859001).bind fun t880 => ((Z67.f k t877 t880).bind fun t883 => (if t883 = true then ((Z46.f k x868000 x868001).bind fun t884 => ((Z46.f k x859000 x859001).bind fun t885 => (if t884 = t885 then ((Z3.f k x868000 x868001).bind fun t886 => ((Z3.f k x859000 x859001).bind fun t887 => (if t886 = t887 then ((Z16.f k x868000 x868001).bind fun t888 => ((Z16.f k x859000 x859001).bind fun t889 => (if (t888 == t889) = true then ((Z48.f k x868000 x868001).bind fun t890 => ((Z48.f k x859000 x859001).bind fun t893 => (some ((t890.length : Int) == (t893.length : Int))))) else (some false)))) else (some false)))) else (some false)))) else (some false))))) else (some false))))) else (some false)))
def Z59.f (k : Nat) (l0 : List Int) : Option (Bool) := if (l0.length : Int) > 1048576 then (some true) else ((Z21.f k l0).bind fun bt852 => ((Z41.f k l0 40).bind fun t859 => ((Z47.f k bt852.1 bt852.2 t859).bind fun bt860 => (if bt860.2.2 = true then ((Z31.f k bt860.1 bt860.2.1).bind fun t868 => (Z59.j0 k (!t868) bt852.1 bt852.2 bt860.1 bt860.2.1)) else (Z59.j0 k true bt852.1 bt852.2 bt860.1 bt860.2.1)))))
theorem Z59.mono_l : ∀ k, (∀ y0 y1 y2 y3 y4, LeO (Z59.j0 k y0 y1 y2 y3 y4) (Z59.j0 (k + 1) y0 y1 y2 y3 y4))
 | 0 => fun _ _ _ _ _ r h => by simp [Z59.j0] at h
 | k + 1 => by
  have ih0 := Z59.mono_l k
  ·intro y0 y1 y2 y3 y4
   unfold Z59.j0
   repeat' first|exact ih0 _ _ _ _ _|exact Z35.mono _ _ _|exact Z11.mono _ _ _|exact Z3.mono _ _ _|exact Z46.mono _ _ _|exact Z16.mono _ _ _|exact Z47.mono _ _ _ _|exact Z30.mono _ _ _|exact Z31.mono _ _ _|exact Z48.mono _ _ _|exact Z67.mono _ _ _|exact Z21.mono _ _|exact Z41.mono _ _ _|exact lo_|refine LeO.ite ?_ ?_|refine LeO.bind ?_ (fun _ => ?_)
theorem Z59.mono : ∀ a0 k, LeO (Z59.f k a0) (Z59.f (k + 1) a0) := by
 intro a0 k
 have ih0 := Z59.mono_l k
 unfold Z59.f
 repeat' first|exact ih0 _ _ _ _ _|exact Z35.mono _ _ _|exact Z11.mono _ _ _|exact Z3.mono _ _ _|exact Z46.mono _ _ _|exact Z16.mono _ _ _|exact Z47.mono _ _ _ _|exact Z30.mono _ _ _|exact Z31.mono _ _ _|exact Z48.mono _ _ _|exact Z67.mono _ _ _|exact Z21.mono _ _|exact Z41.mono _ _ _|exact lo_|refine LeO.ite ?_ ?_|refine LeO.bind ?_ (fun _ => ?_)
def Z59.T4 : Bool × List (List Nat × List Nat) := (true, [([], []), ([], []), ([1], [1]), ([0, 2, 2], [0, 2]), ([3], [3]), ([4], [4]), ([4], [4]), ([], []), ([7, 5, 3, 0, 1, 2, 3, 4, 5, 7], [5, 7]), ([6, 8, 0, 1, 2, 3, 4, 5, 6, 7, 8], [6])])
def Z59.B4 : List Nat := [0, 0, 2, 7, 15, 31, 31, 0, 191, 511]
theorem Z59.tab4 : rtab .any (opsOf Try.f4 4) = Z59.T4 := by kernel_rfl
theorem Z59.bits4 : waitsOk Z59.T4.2 Z59.B4 = true := by kernel_rfl
def Z59.T7 : Bool × List (List Nat × List Nat) := (true, [([], []), ([0], [0]), ([], []), ([2], [2]), ([3], [3]), ([1, 4], [1, 4]), ([5, 1], [5]), ([6], [6]), ([7, 6, 6], [6, 7]), ([6], [6]), ([9, 8, 6], [6, 9]), ([8, 10, 10, 6], [6, 8, 10]), ([6, 11], [6, 11]), ([12, 11], [12]), ([13], [13]), ([14, 13, 13], [13, 14]), ([13], [13]), ([16, 15, 13], [13, 16]), ([15, 17, 17, 13], [13, 15, 17]), ([13, 18], [13, 18]), ([19, 18], [19]), ([20], [20]), ([21, 20, 20], [20, 21]), ([20], [20]), ([23, 22, 20], [20, 23]), ([22, 24, 20], [20, 22, 24]), ([20, 25], [20, 25]), ([26, 24], [26]), ([27], [27]), ([28, 27, 27], [27, 28]), ([27], [27]), ([30, 29, 27], [27, 30]), ([29, 31, 27], [27, 29, 31]), ([27, 32], [27, 32]), ([33, 31], [33]), ([34], [34]), ([35, 34, 34], [34, 35]), ([34], [34]), ([37, 36, 34], [34, 37]), ([36, 38, 34], [34, 36, 38]), ([34, 39], [34, 39]), ([40, 38], [40]), ([41], [41]), ([42, 41, 41], [41, 42]), ([43, 41], [41, 43]), ([41], [41]), ([45, 43, 41], [41, 45]), ([46, 41], [41, 46]), ([44, 47, 41], [41, 44, 47]), ([41, 48], [41, 48]), ([49, 46, 0, 1, 2, 3, 4, 5, 6, 7, 8, 9, 10, 11, 12, 13, 14, 15, 16, 17, 18, 19, 20, 21, 22, 23, 24, 25, 26, 27, 28, 29, 30, 31, 32, 33, 34, 35, 36, 37, 38, 39, 40, 41, 42, 43, 44, 45, 46, 47, 48, 49], [49])])
def Z59.B7 : List Nat := [0, 1, 0, 4, 12, 31, 63, 127, 255, 127, 1023, 2047, 4095, 8191, 16383, 32767, 16383, 131071, 262143, 524287, 1048575, 2097151, 4194303, 2097151, 16777215, 33554431, 67108863, 134217727, 268435455, 536870911, 268435455, 2147483647, 4294967295, 8589934591, 17179869183, 34359738367, 68719476735, 34359738367, 274877906943, 549755813887, 1099511627775, 2199023255551, 4398046511103, 8796093022207, 17592186044415, 4398046511103, 52776558133247, 123145302310911, 281474976710655, 562949953421311, 1125899906842623]
theorem Z59.tab7 : rtab .any (opsOf Try.f4 7) = Z59.T7 := by kernel_rfl
theorem Z59.bits7 : waitsOk Z59.T7.2 Z59.B7 = true := by kernel_rfl
set_option maxHeartbeats 8000000 in
set_option maxRecDepth 100000 in
theorem Z59.calls (k : Nat) (A0 : Option Addr) (c0 : Nat) (l0 : List Int) (r : Bool) (w : World) (hr0 : Kd.C (Kd.int .u8) w A0 l0.length l0) (hc0 : l0.length ≤ c0) (h : Z59.f k l0 = some r) (hr1_ : Aside0 (r = true)) :
  Calls Try.prog 4 #[.slice A0 l0.length c0] w fun e w' => e = .returned (.bool r) ∧ Below w.heap.size w w' := by
 have hu33 := Try.underlying33
 have HR0 := A_ hr0
 have HC0 := A_ hc0
 clear hr0 hc0
 have HB := A_ (Below.refl w.heap.size w)
 have H := h
 unfold Z59.f at H
 clear h
 by_cases c2 : (l0.length : Int) > 1048576
 ·rw [if_pos c2] at H
  have c2b0 : decide (1048576 < (l0.length : Int)) = true := oC_ c2
  have c2b1 : decide (1048576 < l0.length) = true := oC_ (by omega)
  clear c2
  obtain rfl := Option.some.inj H
  go_enter Try.func4, Try.ntmps4
  go_wp2
  go_ret
  exact ⟨qb_, hB_⟩
 ·rw [if_neg c2] at H
  have c2b0 : decide (1048576 < (l0.length : Int)) = false := oD_ c2
  have c2b1 : decide (1048576 < l0.length) = false := oD_ (by omega)
  clear c2
  obtain ⟨⟨t852, t855⟩, A3, H⟩ := bi_ H
  try dsimp only at H
  obtain ⟨t859, A4, H⟩ := bi_ H
  obtain ⟨⟨t860, t863, t866⟩, A5, H⟩ := bi_ H
  try dsimp only at H
  have HC6 := A_ H
  clear H
  go_enter Try.func4, Try.ntmps4
  try go_wp2_with (first | ((with_reducible refine gA_ (f := 20) rfl ?_); refine gL_ (some 10) Try.func20 #[.slice A0 l0.length c0] rfl qa_ ?_; (with_reducible refine (Z21.calls k _ _ l0 t852 t855 _ (cc_ HR0) HC0.out A3.out).mono ?_); rintro e w7 ⟨v853, v856, rfl, ho0, ho1, hb⟩; refine ⟨_, rfl, ?_⟩; have HO854 := rl_ w ho0; have HO857 := rl_ w ho1; replace HB := b1_ hb; clear hb ho0 ho1) | ((with_reducible refine gB_ (N := 3) rfl ?_); (try (refine gate_guard (by rfl) ?_; dsimp only)); refine bx_ 3 #[.slice none 0 0, .slice none 0 0] 33 ?_; intro gb858 hg w8 hbox hb; replace HO854 := rb_ HO854 hb; replace HO857 := rb_ HO857 hb; have BK858 := A_ hbox; have GW858 := gw_ w hg; have GE858 := GW858; replace HB := b1_ hb; clear hb hbox hg; obtain ⟨Ao9, co9, eo9⟩ := Kd.R_slice HO854.out; subst eo9; obtain ⟨hcz10_0, hcz10_1, hfz10_0, hfz10_1⟩ := c2_ BK858; obtain ⟨Ao11, co11, eo11⟩ := Kd.R_slice HO857.out; subst eo11))
  have n0_ : Aside0 (Kd.R (Kd.int .i64) 3 ((w8.setCell ⟨gb858, 0, none⟩ (.slice Ao9 t852.length co9)).setCell ⟨gb858, 1, none⟩ (.slice Ao11 t855.length co11)) w.heap.size (fun k_ => some k_ ≠ (.slice Ao11 t855.length co11 : Value).ownBlock) (.slice Ao9 t852.length co9) t852) := ⟨(rw_ (fa_ HO854 BK858))⟩
  have n1_ : Aside0 (Kd.R (Kd.int .i64) 3 ((w8.setCell ⟨gb858, 0, none⟩ (.slice Ao9 t852.length co9)).setCell ⟨gb858, 1, none⟩ (.slice Ao11 t855.length co11)) w.heap.size (fun k_ => some k_ ≠ (.slice Ao9 t852.length co9 : Value).ownBlock) (.slice Ao11 t855.length co11) t855) := ⟨(rw_ (fa_ HO857 BK858))⟩
  have n2_ : Aside0 (((w8.setCell ⟨gb858, 0, none⟩ (.slice Ao9 t852.length co9)).setCell ⟨gb858, 1, none⟩ (.slice Ao11 t855.length co11)).heap[gb858]? = some (.cells #[.slice Ao9 t852.length co9, .slice Ao11 t855.length co11] 33 (0, 0))) := ⟨qp_⟩
  have n3_ : Aside0 (Below w.heap.size w ((w8.setCell ⟨gb858, 0, none⟩ (.slice Ao9 t852.length co9)).setCell ⟨gb858, 1, none⟩ (.slice Ao11 t855.length co11))) := ⟨hB_⟩
  skip
  generalize ((w8.setCell ⟨gb858, 0, none⟩ (.slice Ao9 t852.length co9)).setCell ⟨gb858, 1, none⟩ (.slice Ao11 t855.length co11)) = w12 at n0_ n1_ n2_ n3_ ⊢
  have HO854 := n0_
  have HO857 := n1_
  have BK858 := n2_
  have HB := n3_
  clear n0_ n1_ n2_ n3_
  replace HO854 := A_ (rC_ HO854.out)
  replace HO857 := A_ (rC_ HO857.out)
  replace BK858 := A_ (kB_ BK858.out)
  replace HB := A_ (bC_ HB.out)
  refine start_ (n := 10) (S := fun w' => w'.cell? ⟨gb858, 0, none⟩ = some (.slice Ao9 t852.length co9) ∧ w'.cell? ⟨gb858, 1, none⟩ = some (.slice Ao11 t855.length co11)) (ds := []) (bl_ 10 0) (by kernel_rfl) rfl (by kernel_rfl) ⟨cz0_ BK858, cz1_ BK858⟩ (fun hHeld => ?_); refine with_tabW Z59.tab4 Z59.bits4 (fun HT_ HW_ => ?_)
  generalize w12.drew = w13 at HO854 HO857 BK858 HB hHeld ⊢
  refine pu_ 1 (some 13) (bl_ 10 2) HT_ ?_
  refine ta_ 0 (some 12) (bl_ 10 3) HT_ HW_ hHeld ?_
  refine join_ (σ := Value × Value × Nat) 2 (bl_ 10 255) (fun s_ => [(14, .string t859), (15, .tuple #[.agg #[s_.1, s_.2.1], .bool t866]), (4, .pointer (some ⟨s_.2.2, 0, none⟩)), (11, .tuple #[.agg #[s_.1, s_.2.1], .bool t866]), (16, .agg #[s_.1, s_.2.1]), (17, .bool t866)]) (fun s_ w' => (w'.cell? ⟨gb858, 0, none⟩ = some (.slice Ao9 t852.length co9) ∧ w'.cell? ⟨gb858, 1, none⟩ = some (.slice Ao11 t855.length co11)) ∧ (Kd.R (Kd.int .i64) 3 w' w.heap.size (fun k_ => some k_ ≠ (.slice Ao11 t855.length co11 : Value).ownBlock ∧ some k_ ≠ (s_.1 : Value).ownBlock ∧ some k_ ≠ (s_.2.1 : Value).ownBlock) (.slice Ao9 t852.length co9) t852) ∧ (Kd.R (Kd.int .i64) 3 w' w.heap.size (fun k_ => some k_ ≠ (.slice Ao9 t852.length co9 : Value).ownBlock ∧ some k_ ≠ (s_.1 : Value).ownBlock ∧ some k_ ≠ (s_.2.1 : Value).ownBlock) (.slice Ao11 t855.length co11) t855) ∧ (Kd.R (Kd.int .i64) 3 w' w.heap.size (fun k_ => some k_ ≠ (.slice Ao9 t852.length co9 : Value).ownBlock ∧ some k_ ≠ (.slice Ao11 t855.length co11 : Value).ownBlock ∧ some k_ ≠ (s_.2.1 : Value).ownBlock) s_.1 t860) ∧ (Kd.R (Kd.int .i64) 3 w' w.heap.size (fun k_ => some k_ ≠ (.slice Ao9 t852.length co9 : Value).ownBlock ∧ some k_ ≠ (.slice Ao11 t855.length co11 : Value).ownBlock ∧ some k_ ≠ (s_.1 : Value).ownBlock) s_.2.1 t863) ∧ (w'.heap[gb858]? = some (.cells #[.slice Ao9 t852.length co9, .slice Ao11 t855.length co11] 33 (0, 0))) ∧ (w'.heap[s_.2.2]? = some (.cells #[.slice none 0 0, .slice none 0 0] 33 (0, 0))) ∧ (w.heap.size ≤ s_.2.2) ∧ (w.heap.size ≤ s_.2.2) ∧ (gb858 ≠ s_.2.2) ∧ (s_.2.2 ≠ gb858) ∧ (Below w.heap.size w w')) ?_ ?_
  rotate_left
  ·intro hCont
   refine two_ (i := 2) (j := 7) (Ni := some 14) (Nj := some 4) (bl_ 10 7) (bl_ 10 131) rfl rfl rfl rfl (two_of HT_.out (by kernel_rfl)) (by decide) (by decide) (fun K hK => ?_) (fun K hK => ?_)
   ·skip
    refine gO_ Try.func22 #[.slice A0 l0.length c0, .int .i64 40] (by rfl) rfl rfl qa_ ?_
    with_reducible refine (Z41.calls k _ _ l0 40 t859 _ (cb_ HR0) HC0.out A4.out).mono ?_
    rintro e w14 ⟨rfl, hb⟩
    refine ⟨_, rfl, ?_⟩
    replace HO854 := rb_ HO854 hb
    replace HO857 := rb_ HO857 hb
    replace BK858 := bb_ BK858 hb
    replace HB := b1_ hb
    clear hb
    refine hK.out _ _ ⟨cz0_ BK858, cz1_ BK858⟩ (fun hHeld => ?_)
    clear hK K
    refine no_ (some 14) ?_
    refine two_ (i := 3) (j := 7) (Ni := some 15) (Nj := some 4) (bl_ 10 15) (bl_ 10 135) rfl rfl rfl rfl (two_of HT_.out (by kernel_rfl)) (by decide) (by decide) (fun K hK => ?_) (fun K hK => ?_)
    ·skip
     refine gO_ Try.func21 #[.agg #[.slice Ao9 t852.length co9, .slice Ao11 t855.length co11], .string t859] (by rfl) rfl rfl qa_ ?_
     with_reducible refine (Z47.calls k _ _ t852 _ _ t855 t859 t860 t863 t866 _ (cr_ HO854) ((Kd.R_reads' HO854.out).2.1) (cr_ HO857) ((Kd.R_reads' HO857.out).2.1) A5.out).mono ?_
     rintro e w15 ⟨v861, v864, rfl, ho0, ho1, hb⟩
     refine ⟨_, rfl, ?_⟩
     have HO862 := A_ (rE_ (Kd.R_new' (Kd.R_new' ho0 (Kd.R_lt (rr_ HO854))) (Kd.R_lt (rr_ HO857))) (bF_ hB_))
     have HO865 := A_ (rE_ (Kd.R_new' (Kd.R_new' ho1 (Kd.R_lt (rr_ HO854))) (Kd.R_lt (rr_ HO857))) (bF_ hB_))
     replace HO854 := A_ (Kd.R_mono (Kd.R_told (Kd.R_told (Kd.R_old (rr_ HO854) hb) (Kd.R_base ho0)) (Kd.R_base ho1)) (fun _ h_ => h_.1))
     replace HO857 := A_ (Kd.R_mono (Kd.R_told (Kd.R_told (Kd.R_old (rr_ HO857) hb) (Kd.R_base ho0)) (Kd.R_base ho1)) (fun _ h_ => h_.1))
     replace BK858 := bb_ BK858 hb
     replace HB := b1_ hb
     clear hb ho0 ho1
     refine hK.out _ _ ⟨cz0_ BK858, cz1_ BK858⟩ (fun hHeld => ?_)
     clear hK K
     refine no_ (some 15) ?_
     refine pu_ 4 (some 11) (bl_ 10 31) HT_ ?_
     refine pu_ 5 (some 16) (bl_ 10 63) HT_ ?_
     refine pu_ 6 (some 17) (bl_ 10 127) HT_ ?_
     refine on_ 7 (some 4) (bl_ 10 255) HT_ (fun K hK => ?_)
     refine box_step ?hg (N := 4) ?hd (cs := #[.slice none 0 0, .slice none 0 0]) (t := 33) ?hr ?_; (case hd => rfl); (case hg => rfl); (case hr => first | (go_simp; done) | (go_simp; rfl))
     intro gb867 hg w16 hbox hb
     replace HO854 := rb_ HO854 hb
     replace HO857 := rb_ HO857 hb
     replace HO862 := rb_ HO862 hb
     replace HO865 := rb_ HO865 hb
     have BK867 := A_ hbox
     have GW867 := gw_ w hg
     have GE867 := GW867
     replace HB := b1_ hb
     have NB858_867 := gN_ BK858 hg
     have NB867_858 := gP_ BK858 hg
     replace BK858 := bb_ BK858 hb
     clear hb hbox hg
     refine hK.out _ _ ⟨cz0_ BK858, cz1_ BK858⟩ (fun hHeld => ?_)
     clear hK K
     refine no_ (some 4) ?_
     exact norm_ (by simp only [putAll, Act.put, sA_, sB_, sC_]) (hCont (v861, v864, gb867) _ ⟨hHeld, (rw_ (Kd.R_mono HO854.out (fun _ hk => ⟨hk.1.1, ⟨hk.1.2, hk.2⟩⟩))), (rw_ (Kd.R_mono HO857.out (fun _ hk => ⟨hk.1.1, ⟨hk.1.2, hk.2⟩⟩))), (rw_ (Kd.R_mono HO862.out (fun _ hk => ⟨hk.1.2, ⟨hk.2, hk.1.1⟩⟩))), (rw_ (Kd.R_mono HO865.out (fun _ hk => ⟨hk.1.2, ⟨hk.2, hk.1.1⟩⟩))), (kk_ BK858), (kk_ BK867), GW867.out, GE867.out, NB858_867.out, NB867_858.out, hB_⟩)
    ·skip
     refine box_step ?hg (N := 4) ?hd (cs := #[.slice none 0 0, .slice none 0 0]) (t := 33) ?hr ?_; (case hd => rfl); (case hg => rfl); (case hr => first | (go_simp; done) | (go_simp; rfl))
     intro gb867 hg w15 hbox hb
     replace HO854 := rb_ HO854 hb
     replace HO857 := rb_ HO857 hb
     have BK867 := A_ hbox
     have GW867 := gw_ w hg
     have GE867 := GW867
     replace HB := b1_ hb
     have NB858_867 := gN_ BK858 hg
     have NB867_858 := gP_ BK858 hg
     replace BK858 := bb_ BK858 hb
     clear hb hbox hg
     refine hK.out _ _ ⟨cz0_ BK858, cz1_ BK858⟩ (fun hHeld => ?_)
     clear hK K
     refine no_ (some 4) ?_
     refine on_ 3 (some 15) (bl_ 10 143) HT_ (fun K hK => ?_)
     refine gO_ Try.func21 #[.agg #[.slice Ao9 t852.length co9, .slice Ao11 t855.length co11], .string t859] (by rfl) rfl rfl qa_ ?_
     with_reducible refine (Z47.calls k _ _ t852 _ _ t855 t859 t860 t863 t866 _ (cr_ HO854) ((Kd.R_reads' HO854.out).2.1) (cr_ HO857) ((Kd.R_reads' HO857.out).2.1) A5.out).mono ?_
     rintro e w16 ⟨v861, v864, rfl, ho0, ho1, hb⟩
     refine ⟨_, rfl, ?_⟩
     have HO862 := A_ (rE_ (Kd.R_new' (Kd.R_new' ho0 (Kd.R_lt (rr_ HO854))) (Kd.R_lt (rr_ HO857))) (bF_ hB_))
     have HO865 := A_ (rE_ (Kd.R_new' (Kd.R_new' ho1 (Kd.R_lt (rr_ HO854))) (Kd.R_lt (rr_ HO857))) (bF_ hB_))
     replace HO854 := A_ (Kd.R_mono (Kd.R_told (Kd.R_told (Kd.R_old (rr_ HO854) hb) (Kd.R_base ho0)) (Kd.R_base ho1)) (fun _ h_ => h_.1))
     replace HO857 := A_ (Kd.R_mono (Kd.R_told (Kd.R_told (Kd.R_old (rr_ HO857) hb) (Kd.R_base ho0)) (Kd.R_base ho1)) (fun _ h_ => h_.1))
     replace BK858 := bb_ BK858 hb
     replace BK867 := bb_ BK867 hb
     replace HB := b1_ hb
     clear hb ho0 ho1
     refine hK.out _ _ ⟨cz0_ BK858, cz1_ BK858⟩ (fun hHeld => ?_)
     clear hK K
     refine no_ (some 15) ?_
     refine pu_ 4 (some 11) (bl_ 10 159) HT_ ?_
     refine pu_ 5 (some 16) (bl_ 10 191) HT_ ?_
     refine pu_ 6 (some 17) (bl_ 10 255) HT_ ?_
     exact norm_ (by simp only [putAll, Act.put, sA_, sB_, sC_]) (hCont (v861, v864, gb867) _ ⟨hHeld, (rw_ (Kd.R_mono HO854.out (fun _ hk => ⟨hk.1.1, ⟨hk.1.2, hk.2⟩⟩))), (rw_ (Kd.R_mono HO857.out (fun _ hk => ⟨hk.1.1, ⟨hk.1.2, hk.2⟩⟩))), (rw_ (Kd.R_mono HO862.out (fun _ hk => ⟨hk.1.2, ⟨hk.2, hk.1.1⟩⟩))), (rw_ (Kd.R_mono HO865.out (fun _ hk => ⟨hk.1.2, ⟨hk.2, hk.1.1⟩⟩))), (kk_ BK858), (kk_ BK867), GW867.out, GE867.out, NB858_867.out, NB867_858.out, hB_⟩)
   ·skip
    refine box_step ?hg (N := 4) ?hd (cs := #[.slice none 0 0, .slice none 0 0]) (t := 33) ?hr ?_; (case hd => rfl); (case hg => rfl); (case hr => first | (go_simp; done) | (go_simp; rfl))
    intro gb867 hg w14 hbox hb
    replace HO854 := rb_ HO854 hb
    replace HO857 := rb_ HO857 hb
    have BK867 := A_ hbox
    have GW867 := gw_ w hg
    have GE867 := GW867
    replace HB := b1_ hb
    have NB858_867 := gN_ BK858 hg
    have NB867_858 := gP_ BK858 hg
    replace BK858 := bb_ BK858 hb
    clear hb hbox hg
    refine hK.out _ _ ⟨cz0_ BK858, cz1_ BK858⟩ (fun hHeld => ?_)
    clear hK K
    refine no_ (some 4) ?_
    refine on_ 2 (some 14) (bl_ 10 135) HT_ (fun K hK => ?_)
    refine gO_ Try.func22 #[.slice A0 l0.length c0, .int .i64 40] (by rfl) rfl rfl qa_ ?_
    with_reducible refine (Z41.calls k _ _ l0 40 t859 _ (cb_ HR0) HC0.out A4.out).mono ?_
    rintro e w15 ⟨rfl, hb⟩
    refine ⟨_, rfl, ?_⟩
    replace HO854 := rb_ HO854 hb
    replace HO857 := rb_ HO857 hb
    replace BK858 := bb_ BK858 hb
    replace BK867 := bb_ BK867 hb
    replace HB := b1_ hb
    clear hb
    refine hK.out _ _ ⟨cz0_ BK858, cz1_ BK858⟩ (fun hHeld => ?_)
    clear hK K
    refine no_ (some 14) ?_
    refine on_ 3 (some 15) (bl_ 10 143) HT_ (fun K hK => ?_)
    refine gO_ Try.func21 #[.agg #[.slice Ao9 t852.length co9, .slice Ao11 t855.length co11], .string t859] (by rfl) rfl rfl qa_ ?_
    with_reducible refine (Z47.calls k _ _ t852 _ _ t855 t859 t860 t863 t866 _ (cr_ HO854) ((Kd.R_reads' HO854.out).2.1) (cr_ HO857) ((Kd.R_reads' HO857.out).2.1) A5.out).mono ?_
    rintro e w16 ⟨v861, v864, rfl, ho0, ho1, hb⟩
    refine ⟨_, rfl, ?_⟩
    have HO862 := A_ (rE_ (Kd.R_new' (Kd.R_new' ho0 (Kd.R_lt (rr_ HO854))) (Kd.R_lt (rr_ HO857))) (bF_ hB_))
    have HO865 := A_ (rE_ (Kd.R_new' (Kd.R_new' ho1 (Kd.R_lt (rr_ HO854))) (Kd.R_lt (rr_ HO857))) (bF_ hB_))
    replace HO854 := A_ (Kd.R_mono (Kd.R_told (Kd.R_told (Kd.R_old (rr_ HO854) hb) (Kd.R_base ho0)) (Kd.R_base ho1)) (fun _ h_ => h_.1))
    replace HO857 := A_ (Kd.R_mono (Kd.R_told (Kd.R_told (Kd.R_old (rr_ HO857) hb) (Kd.R_base ho0)) (Kd.R_base ho1)) (fun _ h_ => h_.1))
    replace BK858 := bb_ BK858 hb
    replace BK867 := bb_ BK867 hb
    replace HB := b1_ hb
    clear hb ho0 ho1
    refine hK.out _ _ ⟨cz0_ BK858, cz1_ BK858⟩ (fun hHeld => ?_)
    clear hK K
    refine no_ (some 15) ?_
    refine pu_ 4 (some 11) (bl_ 10 159) HT_ ?_
    refine pu_ 5 (some 16) (bl_ 10 191) HT_ ?_
    refine pu_ 6 (some 17) (bl_ 10 255) HT_ ?_
    exact norm_ (by simp only [putAll, Act.put, sA_, sB_, sC_]) (hCont (v861, v864, gb867) _ ⟨hHeld, (rw_ (Kd.R_mono HO854.out (fun _ hk => ⟨hk.1.1, ⟨hk.1.2, hk.2⟩⟩))), (rw_ (Kd.R_mono HO857.out (fun _ hk => ⟨hk.1.1, ⟨hk.1.2, hk.2⟩⟩))), (rw_ (Kd.R_mono HO862.out (fun _ hk => ⟨hk.1.2, ⟨hk.2, hk.1.1⟩⟩))), (rw_ (Kd.R_mono HO865.out (fun _ hk => ⟨hk.1.2, ⟨hk.2, hk.1.1⟩⟩))), (kk_ BK858), (kk_ BK867), GW867.out, GE867.out, NB858_867.out, NB867_858.out, hB_⟩)
  rintro ⟨v861, v864, gb867⟩ w17 ⟨hS_, h0_, h1_, h2_, h3_, h4_, h5_, h6_, h7_, h8_, h9_, h10_⟩
  have n0_ : Aside0 (Kd.R (Kd.int .i64) 3 w17 w.heap.size (fun k_ => some k_ ≠ (.slice Ao11 t855.length co11 : Value).ownBlock ∧ some k_ ≠ (v861 : Value).ownBlock ∧ some k_ ≠ (v864 : Value).ownBlock) (.slice Ao9 t852.length co9) t852) := ⟨h0_⟩
  have n1_ : Aside0 (Kd.R (Kd.int .i64) 3 w17 w.heap.size (fun k_ => some k_ ≠ (.slice Ao9 t852.length co9 : Value).ownBlock ∧ some k_ ≠ (v861 : Value).ownBlock ∧ some k_ ≠ (v864 : Value).ownBlock) (.slice Ao11 t855.length co11) t855) := ⟨h1_⟩
  have n2_ : Aside0 (Kd.R (Kd.int .i64) 3 w17 w.heap.size (fun k_ => some k_ ≠ (.slice Ao9 t852.length co9 : Value).ownBlock ∧ some k_ ≠ (.slice Ao11 t855.length co11 : Value).ownBlock ∧ some k_ ≠ (v864 : Value).ownBlock) v861 t860) := ⟨h2_⟩
  have n3_ : Aside0 (Kd.R (Kd.int .i64) 3 w17 w.heap.size (fun k_ => some k_ ≠ (.slice Ao9 t852.length co9 : Value).ownBlock ∧ some k_ ≠ (.slice Ao11 t855.length co11 : Value).ownBlock ∧ some k_ ≠ (v861 : Value).ownBlock) v864 t863) := ⟨h3_⟩
  have n4_ : Aside0 (w17.heap[gb858]? = some (.cells #[.slice Ao9 t852.length co9, .slice Ao11 t855.length co11] 33 (0, 0))) := ⟨h4_⟩
  have n5_ : Aside0 (w17.heap[gb867]? = some (.cells #[.slice none 0 0, .slice none 0 0] 33 (0, 0))) := ⟨h5_⟩
  have n6_ : Aside0 (w.heap.size ≤ gb867) := ⟨h6_⟩
  have n7_ : Aside0 (w.heap.size ≤ gb867) := ⟨h7_⟩
  have n8_ : Aside0 (gb858 ≠ gb867) := ⟨h8_⟩
  have n9_ : Aside0 (gb867 ≠ gb858) := ⟨h9_⟩
  have n10_ : Aside0 (Below w.heap.size w w17) := ⟨h10_⟩
  clear HO854
  clear HO857
  clear BK858
  clear HB
  clear h0_ h1_ h2_ h3_ h4_ h5_ h6_ h7_ h8_ h9_ h10_
  have HO854 := n0_
  have HO857 := n1_
  have HO862 := n2_
  have HO865 := n3_
  have BK858 := n4_
  have BK867 := n5_
  have GW867 := n6_
  have GE867 := n7_
  have NB858_867 := n8_
  have NB867_858 := n9_
  have HB := n10_
  clear n0_ n1_ n2_ n3_ n4_ n5_ n6_ n7_ n8_ n9_ n10_
  have hHeld : w17.cell? ⟨gb858, 0, none⟩ = some (.slice Ao9 t852.length co9) ∧ w17.cell? ⟨gb858, 1, none⟩ = some (.slice Ao11 t855.length co11) := hS_
  obtain ⟨Ao18, co18, eo18⟩ := Kd.R_slice HO862.out
  (first | subst eo18 | (injection eo18 with f1_ f2_ f3_; have f4_ := f1_.symm; have f5_ := f3_.symm; clear f1_ f2_ f3_; subst f4_; subst f5_))
  obtain ⟨Ao20, co20, eo20⟩ := Kd.R_slice HO865.out
  (first | subst eo20 | (injection eo20 with f1_ f2_ f3_; have f4_ := f1_.symm; have f5_ := f3_.symm; clear f1_ f2_ f3_; subst f4_; subst f5_))
  refine norm_ (a' := ?_) ?_ ?_
  rotate_left
  ·simp only [putAll, Act.put, sA_, sB_, sC_]
   rfl
  refine on_ 8 (none) (bl_ 10 511) HT_ (fun K hK => ?_)
  have hs19 : w17.cell? ⟨gb867, 0, none⟩ = some (.slice none 0 0) := cz0_ BK867
  have hfs19 := kD_ BK867.out 0
  have hns19_0 := NB858_867.out
  have hms19_0 := NB867_858.out
  have hs21 : w17.cell? ⟨gb867, 1, none⟩ = some (.slice none 0 0) := cz1_ BK867
  have hfs21 := kD_ BK867.out 1
  have hns21_0 := NB858_867.out
  have hms21_0 := NB867_858.out
  refine skip_ (w1 := ?_) (by rfl) rfl ?_ ?_
  rotate_left
  ·go_simp
   rfl
  refine hK.out _ _ ⟨((cell_far (p := ⟨gb867, _, none⟩) NB858_867.out _).trans (((cell_far (p := ⟨gb867, _, none⟩) NB858_867.out _).trans (hHeld.1)))), ((cell_far (p := ⟨gb867, _, none⟩) NB858_867.out _).trans (((cell_far (p := ⟨gb867, _, none⟩) NB858_867.out _).trans (hHeld.2))))⟩ (fun hHeld => ?_)
  clear hK K
  refine pu_ 9 (some 5) (bl_ 10 1023) HT_ ?_
  refine done_ (done_of HT_.out (by kernel_rfl)) ?_
  go_upto_region 5 with (fail)
  go_cut [24] (fun v24 wc => ∃ (kq : Nat) (x24_5 : Bool), v24 = .bool x24_5 ∧ Aside0 (Z59.j0 kq x24_5 t852 t855 t860 t863 = some r) ∧ Aside0 (kq ≤ k) ∧ Aside0 (Kd.R (Kd.int .i64) 3 wc w.heap.size (fun k_ => some k_ ≠ ((.slice Ao11 t855.length co11) : Value).ownBlock ∧ some k_ ≠ ((.slice Ao18 t860.length co18) : Value).ownBlock ∧ some k_ ≠ ((.slice Ao20 t863.length co20) : Value).ownBlock) (.slice Ao9 t852.length co9) t852) ∧ Aside0 (Kd.R (Kd.int .i64) 3 wc w.heap.size (fun k_ => some k_ ≠ ((.slice Ao9 t852.length co9) : Value).ownBlock ∧ some k_ ≠ ((.slice Ao18 t860.length co18) : Value).ownBlock ∧ some k_ ≠ ((.slice Ao20 t863.length co20) : Value).ownBlock) (.slice Ao11 t855.length co11) t855) ∧ Aside0 (Kd.R (Kd.int .i64) 3 wc w.heap.size (fun k_ => some k_ ≠ ((.slice Ao9 t852.length co9) : Value).ownBlock ∧ some k_ ≠ ((.slice Ao11 t855.length co11) : Value).ownBlock ∧ some k_ ≠ ((.slice Ao20 t863.length co20) : Value).ownBlock) (.slice Ao18 t860.length co18) t860) ∧ Aside0 (Kd.R (Kd.int .i64) 3 wc w.heap.size (fun k_ => some k_ ≠ ((.slice Ao9 t852.length co9) : Value).ownBlock ∧ some k_ ≠ ((.slice Ao11 t855.length co11) : Value).ownBlock ∧ some k_ ≠ ((.slice Ao18 t860.length co18) : Value).ownBlock) (.slice Ao20 t863.length co20) t863) ∧ Aside0 (wc.heap[gb858]? = some (.cells #[(.slice Ao9 t852.length co9), (.slice Ao11 t855.length co11)] 33 (0, 0))) ∧ Aside0 (wc.heap[gb867]? = some (.cells #[(.slice Ao18 t860.length co18), (.slice Ao20 t863.length co20)] 33 (0, 0))) ∧ Aside0 (Below w.heap.size w wc))
  case first =>
   have H := HC6.out
   clear HC6
   by_cases c22 : t866 = true
   ·subst c22
    rw [if_pos rfl] at H
    obtain ⟨t868, A23, H⟩ := bi_ H
    have H' := A_ H
    clear H
    have hnb24 := NB867_858.out
    have hnc24 := NB858_867.out
    obtain ⟨hcz25_0, hcz25_1, hfz25_0, hfz25_1⟩ := c2_ BK867
    go_wp2_with (first | (go_at_call 19; (with_reducible refine (Z31.calls k _ _ t860 _ _ t863 t868 _ ?side1 ?side2 ?side3 ?side4 A23.out).mono ?_); (case side1 => refine (Kd.R_reads' (e := 3) (base := w.heap.size) (ok := fun k_ => (some k_ ≠ (.slice Ao9 t852.length co9 : Value).ownBlock ∧ (some k_ ≠ (.slice Ao11 t855.length co11 : Value).ownBlock ∧ some k_ ≠ (.slice Ao20 t863.length co20 : Value).ownBlock))) (n := t860.length) (c := co18) ?_).2.2; exact (rw_ (fa_ HO862 BK867))); (case side2 => exact (Kd.R_reads' HO862.out).2.1); (case side3 => refine (Kd.R_reads' (e := 3) (base := w.heap.size) (ok := fun k_ => (some k_ ≠ (.slice Ao9 t852.length co9 : Value).ownBlock ∧ (some k_ ≠ (.slice Ao11 t855.length co11 : Value).ownBlock ∧ some k_ ≠ (.slice Ao18 t860.length co18 : Value).ownBlock))) (n := t863.length) (c := co20) ?_).2.2; exact (rw_ (fa_ HO865 BK867))); (case side4 => exact (Kd.R_reads' HO865.out).2.1); rintro e w26 ⟨rfl, hb⟩; replace HO854 := A_ (rD_ (rw_ (fa_ HO854 BK867)) hb); replace HO857 := A_ (rD_ (rw_ (fa_ HO857 BK867)) hb); replace HO862 := A_ (rD_ (rw_ (fa_ HO862 BK867)) hb); replace HO865 := A_ (rD_ (rw_ (fa_ HO865 BK867)) hb); replace BK858 := A_ (kE_ (g := gb858) (o := .cells #[.slice Ao9 t852.length co9, .slice Ao11 t855.length co11] 33 (0, 0)) (by (with_reducible repeat (first | refine kA_ ?_ _ | refine kB_ ?_ | refine kC_ ?_ _)); refine blk_far ?_ NB858_867.out _; (with_reducible repeat (first | refine kA_ ?_ _ | refine kB_ ?_ | refine kC_ ?_ _)); refine blk_far ?_ NB858_867.out _; (with_reducible repeat (first | refine kA_ ?_ _ | refine kB_ ?_ | refine kC_ ?_ _)); exact BK858.out) hb); replace BK867 := A_ (kE_ (g := gb867) (o := .cells #[.slice Ao18 t860.length co18, .slice Ao20 t863.length co20] 33 (0, 0)) qp_ hb); replace HB := b1_ hb; clear hb))
    go_meet
    case rel => exact ⟨_, (!t868), qc_, H', ⟨qd_⟩, ⟨(rr_ HO854)⟩, ⟨(rr_ HO857)⟩, ⟨(rr_ HO862)⟩, ⟨(rr_ HO865)⟩, ⟨(kk_ BK858)⟩, ⟨(kk_ BK867)⟩, ⟨hB_⟩⟩
   ·replace c22 := Bool.eq_false_iff.mpr c22
    subst c22
    have H1 : (Z59.j0 k true t852 t855 t860 t863) = some r := by rw [if_neg (show ¬ (false = true) by decide)] at H; exact H
    clear H
    have H := H1
    clear H1
    have H' := A_ H
    clear H
    go_wp2
    go_meet
    case rel => exact ⟨_, (true), qc_, H', ⟨qd_⟩, ⟨(rw_ (Kd.R_mono (Kd.R_far (p := ⟨gb867, 1, none⟩) (Kd.R_far (p := ⟨gb867, 0, none⟩) (Kd.R_types HO854.out BK867.out (by decide)) (fun _ hk => hk.2) (.slice Ao18 t860.length co18)) (fun _ hk => hk.2) (.slice Ao20 t863.length co20)) (fun _ hk => ⟨hk.1.1, ⟨hk.1.2.1, hk.1.2.2⟩⟩)))⟩, ⟨(rw_ (Kd.R_mono (Kd.R_far (p := ⟨gb867, 1, none⟩) (Kd.R_far (p := ⟨gb867, 0, none⟩) (Kd.R_types HO857.out BK867.out (by decide)) (fun _ hk => hk.2) (.slice Ao18 t860.length co18)) (fun _ hk => hk.2) (.slice Ao20 t863.length co20)) (fun _ hk => ⟨hk.1.1, ⟨hk.1.2.1, hk.1.2.2⟩⟩)))⟩, ⟨(rw_ (Kd.R_mono (Kd.R_far (p := ⟨gb867, 1, none⟩) (Kd.R_far (p := ⟨gb867, 0, none⟩) (Kd.R_types HO862.out BK867.out (by decide)) (fun _ hk => hk.2) (.slice Ao18 t860.length co18)) (fun _ hk => hk.2) (.slice Ao20 t863.length co20)) (fun _ hk => ⟨hk.1.1, ⟨hk.1.2.1, hk.1.2.2⟩⟩)))⟩, ⟨(rw_ (Kd.R_mono (Kd.R_far (p := ⟨gb867, 1, none⟩) (Kd.R_far (p := ⟨gb867, 0, none⟩) (Kd.R_types HO865.out BK867.out (by decide)) (fun _ hk => hk.2) (.slice Ao18 t860.length co18)) (fun _ hk => hk.2) (.slice Ao20 t863.length co20)) (fun _ hk => ⟨hk.1.1, ⟨hk.1.2.1, hk.1.2.2⟩⟩)))⟩, ⟨by (with_reducible repeat (first | refine kA_ ?_ _ | refine kB_ ?_ | refine kC_ ?_ _)); refine blk_far ?_ NB858_867.out _; (with_reducible repeat (first | refine kA_ ?_ _ | refine kB_ ?_ | refine kC_ ?_ _)); refine blk_far ?_ NB858_867.out _; (with_reducible repeat (first | refine kA_ ?_ _ | refine kB_ ?_ | refine kC_ ?_ _)); exact BK858.out⟩, ⟨qp_⟩, ⟨hB_⟩⟩
  case rest =>
   clear HC6
   obtain ⟨kq, x24_5, rfl, HA, HJ5, HO_859000, HO_859001, HO_868000, HO_868001, BK858, BK867, HB⟩ := hcut
   cases kq with
   | zero => exact absurd HA.out (by simp [Z59.j0])
   | succ kj5 =>
    have H := HA.out
    clear HA
    simp only [Z59.j0] at H
    by_cases c27 : x24_5 = true
    ·subst c27
     rw [if_pos rfl] at H
     exact absurd (Option.some.inj H) (by rw [hr1_.out]; decide)
    ·replace c27 := Bool.eq_false_iff.mpr c27
     subst c27
     have H1 : ((Z11.f kj5 t860 t863).bind fun t869 => (if t869 = (t852.length : Int) then ((Z35.f kj5 t860 t863).bind fun t870 => ((Z35.f kj5 t852 t855).bind fun t873 => ((Z67.f kj5 t870 t873).bind fun t876 => (if t876 = true then ((Z30.f kj5 t860 t863).bind fun t877 => ((Z30.f kj5 t852 t855).bind fun t880 => ((Z67.f kj5 t877 t880).bind fun t883 => (if t883 = true then ((Z46.f kj5 t860 t863).bind fun t884 => ((Z46.f kj5 t852 t855).bind fun t885 => (if t884 = t885 then ((Z3.f kj5 t860 t863).bind fun t886 => ((Z3.f kj5 t852 t855).bind fun t887 => (if t886 = t887 then ((Z16.f kj5 t860 t863).bind fun t888 => ((Z16.f kj5 t852 t855).bind fun t889 => (if (t888 == t889) = true then ((Z48.f kj5 t860 t863).bind fun t890 => ((Z48.f kj5 t852 t855).bind fun t893 => (some ((t890.length : Int) == (t893.length : Int))))) else (some false)))) else (some false)))) else (some false)))) else (some false))))) else (some false))))) else (some false))) = some r := by rw [if_neg (show ¬ (false = true) by decide)] at H; exact H
     clear H
     have H := H1
     clear H1
     obtain ⟨t869, A28, H⟩ := bi_ H
     by_cases c29 : t869 = (t852.length : Int)
     ·rw [if_pos c29] at H
      have c29b0 : (t869 == (t852.length : Int)) = true := beq_iff_eq.mpr c29
      have c29b1 : (t869 != (t852.length : Int)) = false := bne_eq_false_iff_eq.mpr c29
      clear c29
      obtain ⟨t870, A30, H⟩ := bi_ H
      obtain ⟨t873, A31, H⟩ := bi_ H
      obtain ⟨t876, A32, H⟩ := bi_ H
      by_cases c33 : t876 = true
      ·subst c33
       rw [if_pos rfl] at H
       obtain ⟨t877, A34, H⟩ := bi_ H
       obtain ⟨t880, A35, H⟩ := bi_ H
       obtain ⟨t883, A36, H⟩ := bi_ H
       by_cases c37 : t883 = true
       ·subst c37
        rw [if_pos rfl] at H
        obtain ⟨t884, A38, H⟩ := bi_ H
        obtain ⟨t885, A39, H⟩ := bi_ H
        by_cases c40 : t884 = t885
        ·rw [if_pos c40] at H
         have c40b0 : (t884 == t885) = true := beq_iff_eq.mpr c40
         have c40b1 : (t884 != t885) = false := bne_eq_false_iff_eq.mpr c40
         clear c40
         obtain ⟨t886, A41, H⟩ := bi_ H
         obtain ⟨t887, A42, H⟩ := bi_ H
         by_cases c43 : t886 = t887
         ·rw [if_pos c43] at H
          have c43b0 : (t886 == t887) = true := beq_iff_eq.mpr c43
          have c43b1 : (t886 != t887) = false := bne_eq_false_iff_eq.mpr c43
          clear c43
          obtain ⟨t888, A44, H⟩ := bi_ H
          obtain ⟨t889, A45, H⟩ := bi_ H
          by_cases c46 : (t888 == t889) = true
          ·rw [if_pos c46] at H
           have c46b0 : (t888 == t889) = true := c46
           (try (have c46b1 : decide (t888 = t889) = true := by simpa using c46))
           (try (have c46b2 : (t888 == t889) = true := by simpa using c46))
           clear c46
           obtain ⟨t890, A47, H⟩ := bi_ H
           obtain ⟨t893, A48, H⟩ := bi_ H
           obtain rfl := Option.some.inj H
           try go_wp2
           replace HO_859000 := A_ (rC_ HO_859000.out)
           replace HO_859001 := A_ (rC_ HO_859001.out)
           replace HO_868000 := A_ (rC_ HO_868000.out)
           replace HO_868001 := A_ (rC_ HO_868001.out)
           replace BK858 := A_ (kB_ BK858.out)
           replace BK867 := A_ (kB_ BK867.out)
           replace HB := A_ (bC_ HB.out)
           refine start_ (n := 51) (S := fun w' => w'.cell? ⟨gb867, 0, none⟩ = some (.slice Ao18 t860.length co18) ∧ w'.cell? ⟨gb867, 1, none⟩ = some (.slice Ao20 t863.length co20) ∧ w'.cell? ⟨gb858, 0, none⟩ = some (.slice Ao9 t852.length co9) ∧ w'.cell? ⟨gb858, 1, none⟩ = some (.slice Ao11 t855.length co11)) (ds := []) (bl_ 51 0) (by kernel_rfl) rfl (by kernel_rfl) ⟨cz0_ BK867, cz1_ BK867, cz0_ BK858, cz1_ BK858⟩ (fun hHeld => ?_); refine with_tabW Z59.tab7 Z59.bits7 (fun HT_ HW_ => ?_)
           generalize wc.drew = w49 at HO_859000 HO_859001 HO_868000 HO_868001 BK858 BK867 HB hHeld ⊢
           refine pu_ 2 (some 27) (bl_ 51 4) HT_ ?_
           refine ta_ 0 (some 25) (bl_ 51 5) HT_ HW_ hHeld ?_
           refine ta_ 3 (some 28) (bl_ 51 13) HT_ HW_ hHeld ?_
           refine pu_ 4 (some 29) (bl_ 51 29) HT_ ?_
           refine on_ 1 (some 26) (bl_ 51 31) HT_ (fun K hK => ?_)
           refine gO_ Try.func23 #[.agg #[.slice Ao18 t860.length co18, .slice Ao20 t863.length co20]] (by rfl) rfl rfl qa_ ?_
           with_reducible refine (Z11.calls kj5 _ _ t860 _ _ t863 t869 _ (cr_ HO_868000) ((Kd.R_reads' HO_868000.out).2.1) (cr_ HO_868001) ((Kd.R_reads' HO_868001.out).2.1) A28.out).mono ?_
           rintro e w50 ⟨rfl, hb⟩
           refine ⟨_, rfl, ?_⟩
           replace HO_859000 := rb_ HO_859000 hb
           replace HO_859001 := rb_ HO_859001 hb
           replace HO_868000 := rb_ HO_868000 hb
           replace HO_868001 := rb_ HO_868001 hb
           replace BK858 := bb_ BK858 hb
           replace BK867 := bb_ BK867 hb
           replace HB := b1_ hb
           clear hb
           refine hK.out _ _ ⟨cz0_ BK867, cz1_ BK867, cz0_ BK858, cz1_ BK858⟩ (fun hHeld => ?_)
           clear hK K
           refine no_ (some 26) ?_
           refine pu_ 5 (some 30) (bl_ 51 63) HT_ ?_
           refine pu_ 6 (some 31) (bl_ 51 127) HT_ ?_
           refine ta_ 7 (some 32) (bl_ 51 255) HT_ HW_ hHeld ?_
           refine ta_ 9 (some 34) (bl_ 51 767) HT_ HW_ hHeld ?_
           refine on_ 8 (some 33) (bl_ 51 1023) HT_ (fun K hK => ?_)
           refine gO_ Try.func25 #[.agg #[.slice Ao18 t860.length co18, .slice Ao20 t863.length co20]] (by rfl) rfl rfl qa_ ?_
           with_reducible refine (Z35.calls kj5 _ _ t860 _ _ t863 t870 _ (cr_ HO_868000) ((Kd.R_reads' HO_868000.out).2.1) (cr_ HO_868001) ((Kd.R_reads' HO_868001.out).2.1) A30.out).mono ?_
           rintro e w51 ⟨v871, rfl, ho0, hb⟩
           refine ⟨_, rfl, ?_⟩
           have HO872 := A_ (rE_ (Kd.R_new' (Kd.R_new' (Kd.R_new' (Kd.R_new' ho0 (Kd.R_lt (rr_ HO_859000))) (Kd.R_lt (rr_ HO_859001))) (Kd.R_lt (rr_ HO_868000))) (Kd.R_lt (rr_ HO_868001))) (bF_ hB_))
           replace HO_859000 := A_ (Kd.R_elder' (rr_ HO_859000) (Kd.R_base ho0) hb)
           replace HO_859001 := A_ (Kd.R_elder' (rr_ HO_859001) (Kd.R_base ho0) hb)
           replace HO_868000 := A_ (Kd.R_elder' (rr_ HO_868000) (Kd.R_base ho0) hb)
           replace HO_868001 := A_ (Kd.R_elder' (rr_ HO_868001) (Kd.R_base ho0) hb)
           replace BK858 := bb_ BK858 hb
           replace BK867 := bb_ BK867 hb
           replace HB := b1_ hb
           clear hb ho0
           refine hK.out _ _ ⟨cz0_ BK867, cz1_ BK867, cz0_ BK858, cz1_ BK858⟩ (fun hHeld => ?_)
           clear hK K
           refine no_ (some 33) ?_
           refine on_ 10 (some 35) (bl_ 51 2047) HT_ (fun K hK => ?_)
           refine gO_ Try.func25 #[.agg #[.slice Ao9 t852.length co9, .slice Ao11 t855.length co11]] (by rfl) rfl rfl qa_ ?_
           with_reducible refine (Z35.calls kj5 _ _ t852 _ _ t855 t873 _ (cr_ HO_859000) ((Kd.R_reads' HO_859000.out).2.1) (cr_ HO_859001) ((Kd.R_reads' HO_859001.out).2.1) A31.out).mono ?_
           rintro e w52 ⟨v874, rfl, ho0, hb⟩
           refine ⟨_, rfl, ?_⟩
           have HO875 := A_ (rE_ (Kd.R_new' (Kd.R_new' (Kd.R_new' (Kd.R_new' (Kd.R_new' ho0 (Kd.R_lt (rr_ HO_859000))) (Kd.R_lt (rr_ HO_859001))) (Kd.R_lt (rr_ HO_868000))) (Kd.R_lt (rr_ HO_868001))) (Kd.R_lt (rr_ HO872))) (bF_ hB_))
           replace HO_859000 := A_ (Kd.R_elder' (rr_ HO_859000) (Kd.R_base ho0) hb)
           replace HO_859001 := A_ (Kd.R_elder' (rr_ HO_859001) (Kd.R_base ho0) hb)
           replace HO_868000 := A_ (Kd.R_elder' (rr_ HO_868000) (Kd.R_base ho0) hb)
           replace HO_868001 := A_ (Kd.R_elder' (rr_ HO_868001) (Kd.R_base ho0) hb)
           replace HO872 := A_ (Kd.R_elder' (rr_ HO872) (Kd.R_base ho0) hb)
           replace BK858 := bb_ BK858 hb
           replace BK867 := bb_ BK867 hb
           replace HB := b1_ hb
           clear hb ho0
           obtain ⟨Ao53, co53, eo53⟩ := Kd.R_slice HO872.out
           (first | subst eo53 | (injection eo53 with f1_ f2_ f3_; have f4_ := f1_.symm; have f5_ := f3_.symm; clear f1_ f2_ f3_; subst f4_; subst f5_))
           obtain ⟨Ao54, co54, eo54⟩ := Kd.R_slice HO875.out
           (first | subst eo54 | (injection eo54 with f1_ f2_ f3_; have f4_ := f1_.symm; have f5_ := f3_.symm; clear f1_ f2_ f3_; subst f4_; subst f5_))
           refine hK.out _ _ ⟨cz0_ BK867, cz1_ BK867, cz0_ BK858, cz1_ BK858⟩ (fun hHeld => ?_)
           clear hK K
           refine no_ (some 35) ?_
           refine on_ 11 (some 36) (bl_ 51 4095) HT_ (fun K hK => ?_)
           refine gO_ Try.func24 #[.slice Ao53 t870.length co53, .slice Ao54 t873.length co54] (by rfl) rfl rfl qa_ ?_
           with_reducible refine (Z67.calls kj5 _ _ t870 _ _ t873 true _ (cr_ HO872) ((Kd.R_reads' HO872.out).2.1) (cr_ HO875) ((Kd.R_reads' HO875.out).2.1) A32.out).mono ?_
           rintro e w' ⟨rfl, ⟨nd, rfl⟩⟩
           refine ⟨_, rfl, ?_⟩
           refine hK.out _ _ ⟨cz0_ BK867, cz1_ BK867, cz0_ BK858, cz1_ BK858⟩ (fun hHeld => ?_)
           clear hK K
           refine no_ (some 36) ?_
           refine pu_ 12 (some 37) (bl_ 51 8191) HT_ ?_
           refine pu_ 13 (some 38) (bl_ 51 16383) HT_ ?_
           refine ta_ 14 (some 39) (bl_ 51 32767) HT_ HW_ hHeld ?_
           refine ta_ 16 (some 41) (bl_ 51 98303) HT_ HW_ hHeld ?_
           refine on_ 15 (some 40) (bl_ 51 131071) HT_ (fun K hK => ?_)
           refine gO_ Try.func26 #[.agg #[.slice Ao18 t860.length co18, .slice Ao20 t863.length co20]] (by rfl) rfl rfl qa_ ?_
           with_reducible refine (Z30.calls kj5 _ _ t860 _ _ t863 t877 _ (cr_ HO_868000) ((Kd.R_reads' HO_868000.out).2.1) (cr_ HO_868001) ((Kd.R_reads' HO_868001.out).2.1) A34.out).mono ?_
           rintro e w55 ⟨v878, rfl, ho0, hb⟩
           refine ⟨_, rfl, ?_⟩
           have HO879 := A_ (rE_ (Kd.R_new' (Kd.R_new' (Kd.R_new' (Kd.R_new' (Kd.R_new' (Kd.R_new' ho0 (Kd.R_lt (rr_ HO_859000))) (Kd.R_lt (rr_ HO_859001))) (Kd.R_lt (rr_ HO_868000))) (Kd.R_lt (rr_ HO_868001))) (Kd.R_lt (rr_ HO872))) (Kd.R_lt (rr_ HO875))) (bF_ hB_))
           replace HO_859000 := A_ (Kd.R_elder' (rr_ HO_859000) (Kd.R_base ho0) hb)
           replace HO_859001 := A_ (Kd.R_elder' (rr_ HO_859001) (Kd.R_base ho0) hb)
           replace HO_868000 := A_ (Kd.R_elder' (rr_ HO_868000) (Kd.R_base ho0) hb)
           replace HO_868001 := A_ (Kd.R_elder' (rr_ HO_868001) (Kd.R_base ho0) hb)
           replace HO872 := A_ (Kd.R_elder' (rr_ HO872) (Kd.R_base ho0) hb)
           replace HO875 := A_ (Kd.R_elder' (rr_ HO875) (Kd.R_base ho0) hb)
           replace BK858 := bb_ BK858 hb
           replace BK867 := bb_ BK867 hb
           replace HB := b1_ hb
           clear hb ho0
           refine hK.out _ _ ⟨cz0_ BK867, cz1_ BK867, cz0_ BK858, cz1_ BK858⟩ (fun hHeld => ?_)
           clear hK K
           refine no_ (some 40) ?_
           refine on_ 17 (some 42) (bl_ 51 262143) HT_ (fun K hK => ?_)
           refine gO_ Try.func26 #[.agg #[.slice Ao9 t852.length co9, .slice Ao11 t855.length co11]] (by rfl) rfl rfl qa_ ?_
           with_reducible refine (Z30.calls kj5 _ _ t852 _ _ t855 t880 _ (cr_ HO_859000) ((Kd.R_reads' HO_859000.out).2.1) (cr_ HO_859001) ((Kd.R_reads' HO_859001.out).2.1) A35.out).mono ?_
           rintro e w56 ⟨v881, rfl, ho0, hb⟩
           refine ⟨_, rfl, ?_⟩
           have HO882 := A_ (rE_ (Kd.R_new' (Kd.R_new' (Kd.R_new' (Kd.R_new' (Kd.R_new' (Kd.R_new' (Kd.R_new' ho0 (Kd.R_lt (rr_ HO_859000))) (Kd.R_lt (rr_ HO_859001))) (Kd.R_lt (rr_ HO_868000))) (Kd.R_lt (rr_ HO_868001))) (Kd.R_lt (rr_ HO872))) (Kd.R_lt (rr_ HO875))) (Kd.R_lt (rr_ HO879))) (bF_ hB_))
           replace HO_859000 := A_ (Kd.R_elder' (rr_ HO_859000) (Kd.R_base ho0) hb)
           replace HO_859001 := A_ (Kd.R_elder' (rr_ HO_859001) (Kd.R_base ho0) hb)
           replace HO_868000 := A_ (Kd.R_elder' (rr_ HO_868000) (Kd.R_base ho0) hb)
           replace HO_868001 := A_ (Kd.R_elder' (rr_ HO_868001) (Kd.R_base ho0) hb)
           replace HO872 := A_ (Kd.R_elder' (rr_ HO872) (Kd.R_base ho0) hb)
           replace HO875 := A_ (Kd.R_elder' (rr_ HO875) (Kd.R_base ho0) hb)
           replace HO879 := A_ (Kd.R_elder' (rr_ HO879) (Kd.R_base ho0) hb)
           replace BK858 := bb_ BK858 hb
           replace BK867 := bb_ BK867 hb
           replace HB := b1_ hb
           clear hb ho0
           obtain ⟨Ao57, co57, eo57⟩ := Kd.R_slice HO879.out
           (first | subst eo57 | (injection eo57 with f1_ f2_ f3_; have f4_ := f1_.symm; have f5_ := f3_.symm; clear f1_ f2_ f3_; subst f4_; subst f5_))
           obtain ⟨Ao58, co58, eo58⟩ := Kd.R_slice HO882.out
           (first | subst eo58 | (injection eo58 with f1_ f2_ f3_; have f4_ := f1_.symm; have f5_ := f3_.symm; clear f1_ f2_ f3_; subst f4_; subst f5_))
           refine hK.out _ _ ⟨cz0_ BK867, cz1_ BK867, cz0_ BK858, cz1_ BK858⟩ (fun hHeld => ?_)
           clear hK K
           refine no_ (some 42) ?_
           refine on_ 18 (some 43) (bl_ 51 524287) HT_ (fun K hK => ?_)
           refine gO_ Try.func24 #[.slice Ao57 t877.length co57, .slice Ao58 t880.length co58] (by rfl) rfl rfl qa_ ?_
           with_reducible refine (Z67.calls kj5 _ _ t877 _ _ t880 true _ (cr_ HO879) ((Kd.R_reads' HO879.out).2.1) (cr_ HO882) ((Kd.R_reads' HO882.out).2.1) A36.out).mono ?_
           rintro e w' ⟨rfl, ⟨nd, rfl⟩⟩
           refine ⟨_, rfl, ?_⟩
           refine hK.out _ _ ⟨cz0_ BK867, cz1_ BK867, cz0_ BK858, cz1_ BK858⟩ (fun hHeld => ?_)
           clear hK K
           refine no_ (some 43) ?_
           refine pu_ 19 (some 44) (bl_ 51 1048575) HT_ ?_
           refine pu_ 20 (some 45) (bl_ 51 2097151) HT_ ?_
           refine ta_ 21 (some 46) (bl_ 51 4194303) HT_ HW_ hHeld ?_
           refine ta_ 23 (some 48) (bl_ 51 12582911) HT_ HW_ hHeld ?_
           refine on_ 22 (some 47) (bl_ 51 16777215) HT_ (fun K hK => ?_)
           refine gO_ Try.func27 #[.agg #[.slice Ao18 t860.length co18, .slice Ao20 t863.length co20]] (by rfl) rfl rfl qa_ ?_
           with_reducible refine (Z46.calls kj5 _ _ t860 _ _ t863 t884 _ (cr_ HO_868000) ((Kd.R_reads' HO_868000.out).2.1) (cr_ HO_868001) ((Kd.R_reads' HO_868001.out).2.1) A38.out).mono ?_
           rintro e w59 ⟨rfl, hb⟩
           refine ⟨_, rfl, ?_⟩
           replace HO_859000 := rb_ HO_859000 hb
           replace HO_859001 := rb_ HO_859001 hb
           replace HO_868000 := rb_ HO_868000 hb
           replace HO_868001 := rb_ HO_868001 hb
           replace HO872 := rb_ HO872 hb
           replace HO875 := rb_ HO875 hb
           replace HO879 := rb_ HO879 hb
           replace HO882 := rb_ HO882 hb
           replace BK858 := bb_ BK858 hb
           replace BK867 := bb_ BK867 hb
           replace HB := b1_ hb
           clear hb
           refine hK.out _ _ ⟨cz0_ BK867, cz1_ BK867, cz0_ BK858, cz1_ BK858⟩ (fun hHeld => ?_)
           clear hK K
           refine no_ (some 47) ?_
           refine on_ 24 (some 49) (bl_ 51 33554431) HT_ (fun K hK => ?_)
           refine gO_ Try.func27 #[.agg #[.slice Ao9 t852.length co9, .slice Ao11 t855.length co11]] (by rfl) rfl rfl qa_ ?_
           with_reducible refine (Z46.calls kj5 _ _ t852 _ _ t855 t885 _ (cr_ HO_859000) ((Kd.R_reads' HO_859000.out).2.1) (cr_ HO_859001) ((Kd.R_reads' HO_859001.out).2.1) A39.out).mono ?_
           rintro e w60 ⟨rfl, hb⟩
           refine ⟨_, rfl, ?_⟩
           replace HO_859000 := rb_ HO_859000 hb
           replace HO_859001 := rb_ HO_859001 hb
           replace HO_868000 := rb_ HO_868000 hb
           replace HO_868001 := rb_ HO_868001 hb
           replace HO872 := rb_ HO872 hb
           replace HO875 := rb_ HO875 hb
           replace HO879 := rb_ HO879 hb
           replace HO882 := rb_ HO882 hb
           replace BK858 := bb_ BK858 hb
           replace BK867 := bb_ BK867 hb
           replace HB := b1_ hb
           clear hb
           refine hK.out _ _ ⟨cz0_ BK867, cz1_ BK867, cz0_ BK858, cz1_ BK858⟩ (fun hHeld => ?_)
           clear hK K
           refine no_ (some 49) ?_
           refine pu_ 25 (some 50) (bl_ 51 67108863) HT_ ?_
           refine pu_ 26 (some 51) (bl_ 51 134217727) HT_ ?_
           refine pu_ 27 (some 52) (bl_ 51 268435455) HT_ ?_
           refine ta_ 28 (some 53) (bl_ 51 536870911) HT_ HW_ hHeld ?_
           refine ta_ 30 (some 55) (bl_ 51 1610612735) HT_ HW_ hHeld ?_
           refine on_ 29 (some 54) (bl_ 51 2147483647) HT_ (fun K hK => ?_)
           refine gO_ Try.func28 #[.agg #[.slice Ao18 t860.length co18, .slice Ao20 t863.length co20]] (by rfl) rfl rfl qa_ ?_
           with_reducible refine (Z3.calls kj5 _ _ t860 _ _ t863 t886 _ (cr_ HO_868000) ((Kd.R_reads' HO_868000.out).2.1) (cr_ HO_868001) ((Kd.R_reads' HO_868001.out).2.1) A41.out).mono ?_
           rintro e w61 ⟨rfl, hb⟩
           refine ⟨_, rfl, ?_⟩
           replace HO_859000 := rb_ HO_859000 hb
           replace HO_859001 := rb_ HO_859001 hb
           replace HO_868000 := rb_ HO_868000 hb
           replace HO_868001 := rb_ HO_868001 hb
           replace HO872 := rb_ HO872 hb
           replace HO875 := rb_ HO875 hb
           replace HO879 := rb_ HO879 hb
           replace HO882 := rb_ HO882 hb
           replace BK858 := bb_ BK858 hb
           replace BK867 := bb_ BK867 hb
           replace HB := b1_ hb
           clear hb
           refine hK.out _ _ ⟨cz0_ BK867, cz1_ BK867, cz0_ BK858, cz1_ BK858⟩ (fun hHeld => ?_)
           clear hK K
           refine no_ (some 54) ?_
           refine on_ 31 (some 56) (bl_ 51 4294967295) HT_ (fun K hK => ?_)
           refine gO_ Try.func28 #[.agg #[.slice Ao9 t852.length co9, .slice Ao11 t855.length co11]] (by rfl) rfl rfl qa_ ?_
           with_reducible refine (Z3.calls kj5 _ _ t852 _ _ t855 t887 _ (cr_ HO_859000) ((Kd.R_reads' HO_859000.out).2.1) (cr_ HO_859001) ((Kd.R_reads' HO_859001.out).2.1) A42.out).mono ?_
           rintro e w62 ⟨rfl, hb⟩
           refine ⟨_, rfl, ?_⟩
           replace HO_859000 := rb_ HO_859000 hb
           replace HO_859001 := rb_ HO_859001 hb
           replace HO_868000 := rb_ HO_868000 hb
           replace HO_868001 := rb_ HO_868001 hb
           replace HO872 := rb_ HO872 hb
           replace HO875 := rb_ HO875 hb
           replace HO879 := rb_ HO879 hb
           replace HO882 := rb_ HO882 hb
           replace BK858 := bb_ BK858 hb
           replace BK867 := bb_ BK867 hb
           replace HB := b1_ hb
           clear hb
           refine hK.out _ _ ⟨cz0_ BK867, cz1_ BK867, cz0_ BK858, cz1_ BK858⟩ (fun hHeld => ?_)
           clear hK K
           refine no_ (some 56) ?_
           refine pu_ 32 (some 57) (bl_ 51 8589934591) HT_ ?_
           refine pu_ 33 (some 58) (bl_ 51 17179869183) HT_ ?_
           refine pu_ 34 (some 59) (bl_ 51 34359738367) HT_ ?_
           refine ta_ 35 (some 60) (bl_ 51 68719476735) HT_ HW_ hHeld ?_
           refine ta_ 37 (some 62) (bl_ 51 206158430207) HT_ HW_ hHeld ?_
           refine on_ 36 (some 61) (bl_ 51 274877906943) HT_ (fun K hK => ?_)
           refine gO_ Try.func29 #[.agg #[.slice Ao18 t860.length co18, .slice Ao20 t863.length co20]] (by rfl) rfl rfl qa_ ?_
           with_reducible refine (Z16.calls kj5 _ _ t860 _ _ t863 t888 _ (cr_ HO_868000) ((Kd.R_reads' HO_868000.out).2.1) (cr_ HO_868001) ((Kd.R_reads' HO_868001.out).2.1) A44.out).mono ?_
           rintro e w63 ⟨rfl, hb⟩
           refine ⟨_, rfl, ?_⟩
           replace HO_859000 := rb_ HO_859000 hb
           replace HO_859001 := rb_ HO_859001 hb
           replace HO_868000 := rb_ HO_868000 hb
           replace HO_868001 := rb_ HO_868001 hb
           replace HO872 := rb_ HO872 hb
           replace HO875 := rb_ HO875 hb
           replace HO879 := rb_ HO879 hb
           replace HO882 := rb_ HO882 hb
           replace BK858 := bb_ BK858 hb
           replace BK867 := bb_ BK867 hb
           replace HB := b1_ hb
           clear hb
           refine hK.out _ _ ⟨cz0_ BK867, cz1_ BK867, cz0_ BK858, cz1_ BK858⟩ (fun hHeld => ?_)
           clear hK K
           refine no_ (some 61) ?_
           refine on_ 38 (some 63) (bl_ 51 549755813887) HT_ (fun K hK => ?_)
           refine gO_ Try.func29 #[.agg #[.slice Ao9 t852.length co9, .slice Ao11 t855.length co11]] (by rfl) rfl rfl qa_ ?_
           with_reducible refine (Z16.calls kj5 _ _ t852 _ _ t855 t889 _ (cr_ HO_859000) ((Kd.R_reads' HO_859000.out).2.1) (cr_ HO_859001) ((Kd.R_reads' HO_859001.out).2.1) A45.out).mono ?_
           rintro e w64 ⟨rfl, hb⟩
           refine ⟨_, rfl, ?_⟩
           replace HO_859000 := rb_ HO_859000 hb
           replace HO_859001 := rb_ HO_859001 hb
           replace HO_868000 := rb_ HO_868000 hb
           replace HO_868001 := rb_ HO_868001 hb
           replace HO872 := rb_ HO872 hb
           replace HO875 := rb_ HO875 hb
           replace HO879 := rb_ HO879 hb
           replace HO882 := rb_ HO882 hb
           replace BK858 := bb_ BK858 hb
           replace BK867 := bb_ BK867 hb
           replace HB := b1_ hb
           clear hb
           refine hK.out _ _ ⟨cz0_ BK867, cz1_ BK867, cz0_ BK858, cz1_ BK858⟩ (fun hHeld => ?_)
           clear hK K
           refine no_ (some 63) ?_
           refine pu_ 39 (some 64) (bl_ 51 1099511627775) HT_ ?_
           refine pu_ 40 (some 65) (bl_ 51 2199023255551) HT_ ?_
           refine pu_ 41 (some 66) (bl_ 51 4398046511103) HT_ ?_
           refine ta_ 42 (some 67) (bl_ 51 8796093022207) HT_ HW_ hHeld ?_
           refine ta_ 45 (some 70) (bl_ 51 43980465111039) HT_ HW_ hHeld ?_
           refine on_ 43 (some 68) (bl_ 51 52776558133247) HT_ (fun K hK => ?_)
           refine gO_ Try.func30 #[.agg #[.slice Ao18 t860.length co18, .slice Ao20 t863.length co20]] (by rfl) rfl rfl qa_ ?_
           with_reducible refine (Z48.calls kj5 _ _ t860 _ _ t863 t890 _ (cr_ HO_868000) ((Kd.R_reads' HO_868000.out).2.1) (cr_ HO_868001) ((Kd.R_reads' HO_868001.out).2.1) A47.out).mono ?_
           rintro e w65 ⟨v891, rfl, ho0, hb⟩
           refine ⟨_, rfl, ?_⟩
           have HO892 := A_ (Kd.S_lower (Kd.S_new' (Kd.S_new' (Kd.S_new' (Kd.S_new' (Kd.S_new' (Kd.S_new' (Kd.S_new' (Kd.S_new' ho0 (Kd.R_lt (rr_ HO_859000))) (Kd.R_lt (rr_ HO_859001))) (Kd.R_lt (rr_ HO_868000))) (Kd.R_lt (rr_ HO_868001))) (Kd.R_lt (rr_ HO872))) (Kd.R_lt (rr_ HO875))) (Kd.R_lt (rr_ HO879))) (Kd.R_lt (rr_ HO882))) (bF_ hB_))
           replace HO_859000 := rb_ HO_859000 hb
           replace HO_859001 := rb_ HO_859001 hb
           replace HO_868000 := rb_ HO_868000 hb
           replace HO_868001 := rb_ HO_868001 hb
           replace HO872 := rb_ HO872 hb
           replace HO875 := rb_ HO875 hb
           replace HO879 := rb_ HO879 hb
           replace HO882 := rb_ HO882 hb
           replace BK858 := bb_ BK858 hb
           replace BK867 := bb_ BK867 hb
           replace HB := b1_ hb
           clear hb ho0
           obtain ⟨Ao66, co66, eo66⟩ := Kd.S_slice HO892.out
           (first | subst eo66 | (injection eo66 with f1_ f2_ f3_; have f4_ := f1_.symm; have f5_ := f3_.symm; clear f1_ f2_ f3_; subst f4_; subst f5_))
           refine hK.out _ _ ⟨cz0_ BK867, cz1_ BK867, cz0_ BK858, cz1_ BK858⟩ (fun hHeld => ?_)
           clear hK K
           refine no_ (some 68) ?_
           refine pu_ 44 (some 69) (bl_ 51 70368744177663) HT_ ?_
           refine on_ 46 (some 71) (bl_ 51 140737488355327) HT_ (fun K hK => ?_)
           refine gO_ Try.func30 #[.agg #[.slice Ao9 t852.length co9, .slice Ao11 t855.length co11]] (by rfl) rfl rfl qa_ ?_
           with_reducible refine (Z48.calls kj5 _ _ t852 _ _ t855 t893 _ (cr_ HO_859000) ((Kd.R_reads' HO_859000.out).2.1) (cr_ HO_859001) ((Kd.R_reads' HO_859001.out).2.1) A48.out).mono ?_
           rintro e w67 ⟨v894, rfl, ho0, hb⟩
           refine ⟨_, rfl, ?_⟩
           have HO895 := A_ (Kd.S_lower (Kd.S_new' (Kd.S_new' (Kd.S_new' (Kd.S_new' (Kd.S_new' (Kd.S_new' (Kd.S_new' (Kd.S_new' (Kd.S_new' ho0 (Kd.R_lt (rr_ HO_859000))) (Kd.R_lt (rr_ HO_859001))) (Kd.R_lt (rr_ HO_868000))) (Kd.R_lt (rr_ HO_868001))) (Kd.R_lt (rr_ HO872))) (Kd.R_lt (rr_ HO875))) (Kd.R_lt (rr_ HO879))) (Kd.R_lt (rr_ HO882))) (Kd.S_lt (ss_ HO892))) (bF_ hB_))
           replace HO_859000 := rb_ HO_859000 hb
           replace HO_859001 := rb_ HO_859001 hb
           replace HO_868000 := rb_ HO_868000 hb
           replace HO_868001 := rb_ HO_868001 hb
           replace HO872 := rb_ HO872 hb
           replace HO875 := rb_ HO875 hb
           replace HO879 := rb_ HO879 hb
           replace HO882 := rb_ HO882 hb
           replace HO892 := A_ (Kd.S_elder' (ss_ HO892) (Kd.S_base ho0) hb)
           replace BK858 := bb_ BK858 hb
           replace BK867 := bb_ BK867 hb
           replace HB := b1_ hb
           clear hb ho0
           obtain ⟨Ao68, co68, eo68⟩ := Kd.S_slice HO895.out
           (first | subst eo68 | (injection eo68 with f1_ f2_ f3_; have f4_ := f1_.symm; have f5_ := f3_.symm; clear f1_ f2_ f3_; subst f4_; subst f5_))
           refine hK.out _ _ ⟨cz0_ BK867, cz1_ BK867, cz0_ BK858, cz1_ BK858⟩ (fun hHeld => ?_)
           clear hK K
           refine no_ (some 71) ?_
           refine pu_ 47 (some 72) (bl_ 51 281474976710655) HT_ ?_
           refine pu_ 48 (some 73) (bl_ 51 562949953421311) HT_ ?_
           refine pu_ 49 (some 74) (bl_ 51 1125899906842623) HT_ ?_
           refine pu_ 50 (some 2) (bl_ 51 2251799813685247) HT_ ?_
           refine done_ (done_of HT_.out (by kernel_rfl)) ?_
           try go_wp2
           go_ret
           exact ⟨qb_, hB_⟩
          ·rw [if_neg c46] at H
           have c46b0 : (t888 == t889) = false := by simpa using c46
           (try (have c46b1 : decide (t888 = t889) = false := by simpa using c46))
           (try (have c46b2 : (t888 == t889) = false := by simpa using c46))
           (try (have c46b3 : ¬ (t888 = t889) := by simpa using c46))
           clear c46
           exact absurd (Option.some.inj H) (by rw [hr1_.out]; decide)
         ·rw [if_neg c43] at H
          have c43b0 : (t886 == t887) = false := beq_eq_false_iff_ne.mpr c43
          have c43b1 : (t886 != t887) = true := bne_iff_ne.mpr c43
          exact absurd (Option.some.inj H) (by rw [hr1_.out]; decide)
        ·rw [if_neg c40] at H
         have c40b0 : (t884 == t885) = false := beq_eq_false_iff_ne.mpr c40
         have c40b1 : (t884 != t885) = true := bne_iff_ne.mpr c40
         exact absurd (Option.some.inj H) (by rw [hr1_.out]; decide)
       ·replace c37 := Bool.eq_false_iff.mpr c37
        subst c37
        have H1 : (some false) = some r := by rw [if_neg (show ¬ (false = true) by decide)] at H; exact H
        clear H
        have H := H1
        clear H1
        exact absurd (Option.some.inj H) (by rw [hr1_.out]; decide)
      ·replace c33 := Bool.eq_false_iff.mpr c33
       subst c33
       have H1 : (some false) = some r := by rw [if_neg (show ¬ (false = true) by decide)] at H; exact H
       clear H
       have H := H1
       clear H1
       exact absurd (Option.some.inj H) (by rw [hr1_.out]; decide)
     ·rw [if_neg c29] at H
      have c29b0 : (t869 == (t852.length : Int)) = false := beq_eq_false_iff_ne.mpr c29
      have c29b1 : (t869 != (t852.length : Int)) = true := bne_iff_ne.mpr c29
      exact absurd (Option.some.inj H) (by rw [hr1_.out]; decide)
end Go.Proofs.Ytoijcallajegfaa.A
end
section
/- Plain mathematics: permutations of whole numbers, and what is reached by two of them. No conditions. -/
namespace Go.Proofs.Ytoijcallajegfaa.M
set_option linter.unusedVariables false
set_option linter.unusedSimpArgs false
open Go.RowKit Go.Proofs.YtoijcallajegfaaW.PrintWords Go.Proofs.YtoijcallajegfaaW.PrintLast Go.Proofs.YtoijcallajegfaaW.PrintMore
theorem w64 {x : Int} (h0 : -9223372036854775808 ≤ x) (h1 : x ≤ 9223372036854775807) : wrap64 x = x := by unfold wrap64; omega
theorem w64s (i : Nat) (h : i ≤ 9000000000000000000) : wrap64 ((i : Int) + 1) = ((i + 1 : Nat) : Int) := by rw [w64 (by omega) (by omega)]; omega
theorem ev_succ {α : Type} {f : Nat → Option α} {r : α} (h : Ev (fun k => f (k + 1)) r) : Ev f r := Ev.step (fun _ => rfl) h
theorem rdI (p : List Nat) (i : Nat) : rd (I p) (i : Int) = ((g p i : Nat) : Int) := by
 unfold rd g I
 simp only [Int.toNat_natCast, List.getD_eq_getElem?_getD, List.getElem?_map]
 cases p[i]? <;> rfl
theorem rd_get (l : List Int) (i : Nat) (h : i < l.length) : rd l (i : Int) = l[i] := by
 unfold rd
 simp [List.getD_eq_getElem?_getD, h]
theorem mem_I {p : List Nat} {x : Nat} : (x : Int) ∈ I p ↔ x ∈ p := by
 unfold I
 constructor
 ·intro h
  obtain ⟨y, hy, e⟩ := List.mem_map.mp h
  have : y = x := Int.ofNat.inj e
  exact this ▸ hy
 ·intro h
  exact List.mem_map.mpr ⟨x, h, rfl⟩
def PI (l : List Int) : Prop := l.length ≤ 24 ∧ (∀ x ∈ l, 0 ≤ x ∧ x < (l.length : Int)) ∧ l.Nodup
instance : DecidablePred PI := fun l => by unfold PI; infer_instance
def permB (l : List Int) : Bool := decide (PI l)
def N (l : List Int) : List Nat := l.map Int.toNat
theorem N_I (p : List Nat) : N (I p) = p := by
 unfold N I
 rw [List.map_map]
 exact List.map_id'' (fun x => rfl) p
theorem N_len (l : List Int) : (N l).length = l.length := by simp [N]
theorem I_N {l : List Int} (h : ∀ x ∈ l, 0 ≤ x) : I (N l) = l := by
 unfold N I
 rw [List.map_map]
 conv => rhs; rw [← List.map_id l]
 apply List.map_congr_left
 intro x hx
 have := h x hx
 simp only [Function.comp, id]
 show ((x.toNat : Nat) : Int) = x
 omega
theorem PI_nat {l : List Int} (h : PI l) : ∃ p, l = I p ∧ IsP p ∧ p.length ≤ 24 := by
 obtain ⟨h1, h2, h3⟩ := h
 refine ⟨N l, (I_N (fun x hx => (h2 x hx).1)).symm, ?_, by rw [N_len]; exact h1⟩
 have e := I_N (fun x hx => (h2 x hx).1)
 refine ⟨fun x hx => ?_, ?_⟩
 ·have := (h2 (x : Int) (by rw [← e]; exact mem_I.mpr hx)).2
  rw [N_len]
  omega
 ·rw [← e] at h3
  unfold I at h3
  exact (List.pairwise_map.mp h3).imp (fun {a b} hab hh => hab (by rw [hh]))
theorem PI_I {p : List Nat} : PI (I p) ↔ IsP p ∧ p.length ≤ 24 := by
 constructor
 ·intro h
  obtain ⟨q, e, h1, h2⟩ := PI_nat h
  have := I_inj e
  subst this
  exact ⟨h1, h2⟩
 ·intro ⟨h1, h2⟩
  refine ⟨by rw [I_len]; exact h2, fun x hx => ?_, ?_⟩
  ·unfold I at hx
   obtain ⟨y, hy, rfl⟩ := List.mem_map.mp hx
   have := h1.lt y hy
   rw [I_len]
   exact ⟨Int.natCast_nonneg y, Int.ofNat_lt.mpr this⟩
  ·unfold I
   exact List.pairwise_map.mpr (h1.nd.imp (fun {a b} hab hh => hab (Int.ofNat.inj hh)))
theorem permB_I {p : List Nat} : permB (I p) = true ↔ IsP p ∧ p.length ≤ 24 := by
 unfold permB
 rw [decide_eq_true_iff]
 exact PI_I
def okFrom (l : List Int) (i : Nat) : Prop := ∀ j : Nat, i ≤ j → j < l.length → 0 ≤ rd l (j : Int) ∧ rd l (j : Int) < (l.length : Int) ∧ rd l (j : Int) ∉ l.take j
theorem okFrom_end (l : List Int) (i : Nat) (h : l.length ≤ i) : okFrom l i := fun j h1 h2 => by omega
theorem okFrom_step {l : List Int} {i : Nat} (h : 0 ≤ rd l (i : Int) ∧ rd l (i : Int) < (l.length : Int) ∧ rd l (i : Int) ∉ l.take i) : okFrom l i ↔ okFrom l (i + 1) := by
 constructor
 ·intro k j h1 h2
  exact k j (by omega) h2
 ·intro k j h1 h2
  by_cases e : j = i
  ·subst e
   exact h
  ·exact k j (by omega) h2
theorem okFrom_not {l : List Int} {i : Nat} (hi : i < l.length) (h : ¬ (0 ≤ rd l (i : Int) ∧ rd l (i : Int) < (l.length : Int) ∧ rd l (i : Int) ∉ l.take i)) : ¬ okFrom l i := fun k => h (k i (Nat.le_refl _) hi)
theorem okFrom_PI {l : List Int} (h : l.length ≤ 24) : okFrom l 0 ↔ PI l := by
 constructor
 ·intro k
  refine ⟨h, fun x hx => ?_, ?_⟩
  ·obtain ⟨i, hi, rfl⟩ := List.mem_iff_getElem.mp hx
   have := k i (Nat.zero_le _) hi
   rw [rd_get l i hi] at this
   exact ⟨this.1, this.2.1⟩
  ·refine List.pairwise_iff_getElem.mpr ?_
   intro i j hi hj hij e
   have := (k j (Nat.zero_le _) hj).2.2
   rw [rd_get l j hj, ← e] at this
   exact this (List.mem_take_iff_getElem.mpr ⟨i, by omega, rfl⟩)
 ·intro ⟨_, h2, h3⟩ j _ hj
  rw [rd_get l j hj]
  refine ⟨(h2 _ (List.getElem_mem hj)).1, (h2 _ (List.getElem_mem hj)).2, fun hm => ?_⟩
  obtain ⟨i, hi, e⟩ := List.mem_take_iff_getElem.mp hm
  exact List.pairwise_iff_getElem.mp h3 i j (by omega) hj (by omega) e
theorem permB_of {l : List Int} {b : Bool} (h : l.length ≤ 24) (hb : b = true ↔ okFrom l 0) : b = permB l := by
 rw [Bool.eq_iff_iff, hb, okFrom_PI h]
 unfold permB
 rw [decide_eq_true_iff]
theorem take_succ (l : List Int) (i : Nat) (h : i < l.length) : l.take (i + 1) = l.take i ++ [rd l (i : Int)] := by
 rw [rd_get l i h, List.take_append_getElem h]
def st1 (out : List Nat) (x : Nat) : List Nat := if x ∈ out then out else out ++ [x]
def bfs (p q : List Nat) : Nat → Nat → List Nat → List Nat
 | 0, _, out => out
 | f + 1, a, out => if a < out.length then bfs p q f (a + 1) (st1 (st1 out (g p (g out a))) (g q (g out a))) else out
def reach (p q : List Nat) (s : Nat) : List Nat := bfs p q (p.length + 1) 0 [s]
structure RInv (n : Nat) (out : List Nat) : Prop where
 nd : out.Nodup
 lt : ∀ x ∈ out, x < n
theorem RInv.le {n : Nat} {out : List Nat} (h : RInv n out) : out.length ≤ n := nodup_le n out h.nd h.lt
theorem RInv.st {n : Nat} {out : List Nat} {x : Nat} (h : RInv n out) (hx : x < n) : RInv n (st1 out x) := by
 unfold st1
 split
 ·exact h
 ·rename_i hn
  refine ⟨List.nodup_append.mpr ⟨h.nd, by simp, fun a ha b hb e => ?_⟩, fun y hy => ?_⟩
  ·have : b = x := by simpa using hb
   subst this
   exact hn (e ▸ ha)
  ·rcases List.mem_append.mp hy with hy | hy
   ·exact h.lt y hy
   ·have : y = x := by simpa using hy
    omega
theorem st1_len (out : List Nat) (x : Nat) : out.length ≤ (st1 out x).length := by
 unfold st1
 split <;> simp
theorem RInv.g {n : Nat} {out : List Nat} {a : Nat} (h : RInv n out) (ha : a < out.length) : M.g out a < n := h.lt _ (g_mem ha)
structure Sf (r u : List Nat) : Prop where
 pr : IsP r
 pu : IsP u
 le : r.length ≤ 24
 eq : u.length = r.length
 pos : 0 < r.length
 all : (reach r u 0).length = r.length
def surfB (r u : List Int) : Bool := permB r && permB u && decide (r.length = u.length) && decide (0 < r.length) && ((reach (N r) (N u) 0).length == r.length)
theorem surf_nat {r u : List Int} (h : surfB r u = true) : ∃ r' u', r = I r' ∧ u = I u' ∧ Sf r' u' := by
 unfold surfB at h
 simp only [Bool.and_eq_true, decide_eq_true_eq, beq_iff_eq] at h
 obtain ⟨⟨⟨⟨h1, h2⟩, h3⟩, h4⟩, h5⟩ := h
 obtain ⟨r', rfl, a1, a2⟩ := PI_nat (of_decide_eq_true h1)
 obtain ⟨u', rfl, b1, b2⟩ := PI_nat (of_decide_eq_true h2)
 rw [N_I, N_I, I_len] at h5
 rw [I_len, I_len] at h3
 rw [I_len] at h4
 exact ⟨r', u', rfl, rfl, a1, b1, a2, h3.symm, h4, h5⟩
theorem surfB_I {r u : List Nat} : surfB (I r) (I u) = true ↔ Sf r u := by
 constructor
 ·intro h
  obtain ⟨r', u', e1, e2, hs⟩ := surf_nat h
  have := I_inj e1
  have := I_inj e2
  subst_vars
  exact hs
 ·intro h
  unfold surfB
  simp only [Bool.and_eq_true, decide_eq_true_eq, beq_iff_eq]
  rw [N_I, N_I, I_len, I_len]
  exact ⟨⟨⟨⟨permB_I.mpr ⟨h.pr, h.le⟩, permB_I.mpr ⟨h.pu, by have := h.le; have := h.eq; omega⟩⟩, h.eq.symm⟩, h.pos⟩, h.all⟩
end Go.Proofs.Ytoijcallajegfaa.M
end
section
/- Plain mathematics: surfaces, and what the four letters make of them. No conditions. -/
namespace Go.Proofs.Ytoijcallajegfaa.M
set_option linter.unusedVariables false
set_option linter.unusedSimpArgs false
theorem st1_mem {out : List Nat} {x y : Nat} : y ∈ st1 out x ↔ y ∈ out ∨ y = x := by
 unfold st1
 split
 ·rename_i h
  constructor
  ·exact Or.inl
  ·rintro (h' | rfl)
   ·exact h'
   ·exact h
 ·simp
theorem st1_g {out : List Nat} {x i : Nat} (h : i < out.length) : g (st1 out x) i = g out i := by
 unfold st1
 split
 ·rfl
 ·unfold g
  rw [List.getD_eq_getElem?_getD, List.getD_eq_getElem?_getD, List.getElem?_append_left h]
theorem st1_le (out : List Nat) (x : Nat) : out.length ≤ (st1 out x).length := by
 unfold st1
 split
 ·exact Nat.le_refl _
 ·simp
theorem bfs_ind {r u : List Nat} {n : Nat} (S : Nat → Prop) (h1 : ∀ x, x < n → S x → S (g r x) ∧ g r x < n) (h2 : ∀ x, x < n → S x → S (g u x) ∧ g u x < n) : ∀ (F a : Nat) (out : List Nat), (∀ x ∈ out, S x ∧ x < n) → ∀ x ∈ bfs r u F a out, S x ∧ x < n := by
 intro F
 induction F with
 | zero => intro a out h; exact h
 | succ F ih =>
  intro a out h
  unfold bfs
  split
  ·rename_i ha
   obtain ⟨s, l⟩ := h _ (g_mem ha)
   refine ih _ _ (fun x hx => ?_)
   rcases st1_mem.mp hx with hx | rfl
   ·rcases st1_mem.mp hx with hx | rfl
    ·exact h x hx
    ·exact h1 _ l s
   ·exact h2 _ l s
  ·exact h
theorem bfs_sub {r u : List Nat} : ∀ (F a : Nat) (out : List Nat), ∀ x ∈ out, x ∈ bfs r u F a out := by
 intro F
 induction F with
 | zero => intro a out x h; exact h
 | succ F ih =>
  intro a out x h
  unfold bfs
  split
  ·exact ih _ _ x (st1_mem.mpr (.inl (st1_mem.mpr (.inl h))))
  ·exact h
theorem bfs_rinv {r u : List Nat} {n : Nat} (h1 : ∀ x, x < n → g r x < n) (h2 : ∀ x, x < n → g u x < n) : ∀ (F a : Nat) (out : List Nat), RInv n out → RInv n (bfs r u F a out) := by
 intro F
 induction F with
 | zero => intro a out h; exact h
 | succ F ih =>
  intro a out h
  unfold bfs
  split
  ·rename_i ha
   have hx := h.g ha
   exact ih _ _ ((h.st (h1 _ hx)).st (h2 _ hx))
  ·exact h
theorem bfs_shut {r u : List Nat} {n : Nat} (h1 : ∀ x, x < n → g r x < n) (h2 : ∀ x, x < n → g u x < n) : ∀ (F a : Nat) (out : List Nat), RInv n out → a ≤ out.length → n < F + a → (∀ i, i < a → g r (g out i) ∈ out ∧ g u (g out i) ∈ out) → ∀ x ∈ bfs r u F a out, g r x ∈ bfs r u F a out ∧ g u x ∈ bfs r u F a out := by
 intro F
 induction F with
 | zero =>
  intro a out h ha hF
  have := h.le
  omega
 | succ F ih =>
  intro a out h ha hF hc
  unfold bfs
  split
  ·rename_i ha'
   have hx := h.g ha'
   have r1 := h.st (h1 _ hx)
   have l1 := st1_le out (g r (g out a))
   have l2 := st1_le (st1 out (g r (g out a))) (g u (g out a))
   refine ih _ _ (r1.st (h2 _ hx)) (by omega) (by omega) (fun i hi => ?_)
   have e : g (st1 (st1 out (g r (g out a))) (g u (g out a))) i = g out i := by
    rw [st1_g (by omega), st1_g (by omega)]
   rw [e]
   by_cases hia : i < a
   ·exact ⟨st1_mem.mpr (.inl (st1_mem.mpr (.inl (hc i hia).1))), st1_mem.mpr (.inl (st1_mem.mpr (.inl (hc i hia).2)))⟩
   ·obtain rfl : i = a := by omega
    exact ⟨st1_mem.mpr (.inl (st1_mem.mpr (.inr rfl))), st1_mem.mpr (.inr rfl)⟩
  ·intro x hx
   obtain ⟨i, hi, rfl⟩ := mem_g hx
   exact hc i (by omega)
theorem nodup_sub_len5 : ∀ (a b : List Nat), a.Nodup → (∀ x ∈ a, x ∈ b) → a.length ≤ b.length := by
 intro a
 induction a with
 | nil => intro b _ _; simp
 | cons x a ih =>
  intro b hn h
  obtain ⟨h1, h2⟩ := List.nodup_cons.mp hn
  have hx : x ∈ b := h x (by simp)
  have := ih (b.erase x) h2 (fun y hy => (List.mem_erase_of_ne (fun e => h1 (by rw [← e]; exact hy))).mpr (h y (by simp [hy])))
  rw [List.length_erase_of_mem hx] at this
  have hp := List.length_pos_of_mem hx
  simp
  omega
def Tr (r u : List Nat) : Prop := ∀ S : Nat → Prop, S 0 → (∀ x, x < r.length → S x → S (g r x)) → (∀ x, x < r.length → S x → S (g u x)) → ∀ x, x < r.length → S x
theorem sf_of_tr {r u : List Nat} (pr : IsP r) (pu : IsP u) (le : r.length ≤ 24) (eq : u.length = r.length) (pos : 0 < r.length) (h : Tr r u) : Sf r u := by
 have b1 : ∀ x, x < r.length → g r x < r.length := fun x hx => g_lt pr hx
 have b2 : ∀ x, x < r.length → g u x < r.length := fun x hx => by have := g_lt pu (i := x) (by omega); omega
 have hri : RInv r.length (reach r u 0) := bfs_rinv b1 b2 _ _ _ ⟨by simp, by simpa using pos⟩
 have hsh := bfs_shut b1 b2 (r.length + 1) 0 [0] ⟨by simp, by simpa using pos⟩ (by simp) (by omega) (fun i hi => by omega)
 have hall : ∀ x, x < r.length → x ∈ reach r u 0 := h (fun x => x ∈ reach r u 0) (bfs_sub _ _ _ 0 (by simp)) (fun x _ hx => (hsh x hx).1) (fun x _ hx => (hsh x hx).2)
 refine ⟨pr, pu, le, eq, pos, ?_⟩
 have l1 := hri.le
 have l2 := nodup_sub_len5 (List.range r.length) (reach r u 0) List.nodup_range (fun x hx => hall x (List.mem_range.mp hx))
 rw [List.length_range] at l2
 omega
theorem Sf.tr {r u : List Nat} (hs : Sf r u) : Tr r u := by
 intro S s0 h1 h2 x hx
 have b1 : ∀ x, x < r.length → g r x < r.length := fun x hx => g_lt hs.pr hx
 have b2 : ∀ x, x < r.length → g u x < r.length := fun x hx => by have := g_lt hs.pu (i := x) (by rw [hs.eq]; exact hx); rw [hs.eq] at this; exact this
 have hri : RInv r.length (reach r u 0) := bfs_rinv b1 b2 _ _ _ ⟨by simp, by simpa using hs.pos⟩
 have hp : IsP (reach r u 0) := ⟨fun x hx => by rw [hs.all]; exact hri.lt x hx, hri.nd⟩
 have hm := mem_all hp (x := x) (by rw [hs.all]; exact hx)
 have h0 : ∀ y ∈ [0], S y ∧ y < r.length := by
  intro y hy
  obtain rfl : y = 0 := by simpa using hy
  exact ⟨s0, hs.pos⟩
 exact (bfs_ind S (fun x hx h => ⟨h1 x hx h, b1 x hx⟩) (fun x hx h => ⟨h2 x hx h, b2 x hx⟩) _ _ [0] h0 x hm).1
theorem closed_back {p : List Nat} (hp : IsP p) {S : Nat → Prop} (hS : ∀ x, x < p.length → S x → S (g p x)) {x : Nat} (hx : x < p.length) (h : S (g p x)) : S x := by
 obtain ⟨m, h1, _, h3⟩ := period hp hx
 have H : ∀ k, S (itr p k (g p x)) := by
  intro k
  induction k with
  | zero => exact h
  | succ k ih => exact hS _ (itr_lt hp k (g_lt hp hx)) ih
 have e : itr p (m - 1) (g p x) = itr p m x := by
  have := itr_add p (m - 1) 1 x
  rw [show m - 1 + 1 = m by omega] at this
  exact this.symm
 have := H (m - 1)
 rw [e, h3] at this
 exact this
theorem reach_full {r u : List Nat} (hs : Sf r u) {s : Nat} (hb : s < r.length) : RInv r.length (reach r u s) ∧ ∀ x, x < r.length → x ∈ reach r u s := by
 have b1 : ∀ x, x < r.length → g r x < r.length := fun x hx => g_lt hs.pr hx
 have b2 : ∀ x, x < r.length → g u x < r.length := fun x hx => by have := g_lt hs.pu (i := x) (by rw [hs.eq]; exact hx); rw [hs.eq] at this; exact this
 have h0 : RInv r.length [s] := ⟨by simp, by simpa using hb⟩
 have hsh := bfs_shut b1 b2 (r.length + 1) 0 [s] h0 (by simp) (by omega) (fun i hi => by omega)
 have hmem : s ∈ reach r u s := bfs_sub _ _ _ s (by simp)
 refine ⟨bfs_rinv b1 b2 _ _ _ h0, ?_⟩
 have z : (0 : Nat) ∈ reach r u s := by
  apply Classical.byContradiction
  intro hz
  refine hs.tr (fun x => x ∉ reach r u s) hz (fun x hx hn hm => ?_) (fun x hx hn hm => ?_) s hb hmem
  ·exact hn (closed_back hs.pr (S := fun x => x ∈ reach r u s) (fun y _ hy => (hsh y hy).1) hx hm)
  ·exact hn (closed_back hs.pu (S := fun x => x ∈ reach r u s) (fun y _ hy => (hsh y hy).2) (by rw [hs.eq]; exact hx) hm)
 exact hs.tr (fun x => x ∈ reach r u s) z (fun x _ hx => (hsh x hx).1) (fun x _ hx => (hsh x hx).2)
theorem sf_T {r u : List Nat} (hs : Sf r u) : Sf r (thn (inv r) u) := by
 have h1 : (inv r).length = u.length := by rw [inv_len, hs.eq]
 refine sf_of_tr hs.pr (isP_thn (isP_inv hs.pr) hs.pu h1) hs.le (by rw [thn_len, inv_len]) hs.pos (fun S s0 k1 k2 => hs.tr S s0 k1 (fun x hx hsx => ?_))
 have := k2 (g r x) (g_lt hs.pr hx) (k1 x hx hsx)
 rw [g_thn (by rw [inv_len]; exact g_lt hs.pr hx), g_inv (g_lt hs.pr hx), ix_g hs.pr hx] at this
 exact this
theorem sf_t {r u : List Nat} (hs : Sf r u) : Sf r (thn r u) := by
 have h1 : r.length = u.length := hs.eq.symm
 refine sf_of_tr hs.pr (isP_thn hs.pr hs.pu h1) hs.le (by rw [thn_len]) hs.pos (fun S s0 k1 k2 => hs.tr S s0 k1 (fun y hy hsy => ?_))
 have hx : ix r y < r.length := ix_lt hs.pr hy
 have e : g r (ix r y) = y := g_ix hs.pr hy
 have hsx : S (ix r y) := closed_back hs.pr (S := S) k1 hx (by rw [e]; exact hsy)
 have := k2 _ hx hsx
 rw [g_thn hx, e] at this
 exact this
theorem sf_S {r u : List Nat} (hs : Sf r u) : Sf (inv u) r := by
 have hl : (inv u).length = r.length := by rw [inv_len, hs.eq]
 refine sf_of_tr (isP_inv hs.pu) hs.pr (by rw [hl]; exact hs.le) hl.symm (by rw [hl]; exact hs.pos) (fun S s0 k1 k2 => ?_)
 rw [hl] at k1 k2 ⊢
 refine hs.tr S s0 k2 (fun x hx hsx => ?_)
 have hx' : g u x < u.length := g_lt hs.pu (by rw [hs.eq]; exact hx)
 refine closed_back (isP_inv hs.pu) (S := S) (fun y hy => k1 y (by rw [← hl]; exact hy)) (x := g u x) (by rw [inv_len]; exact hx') ?_
 rw [g_inv hx', ix_g hs.pu (by rw [hs.eq]; exact hx)]
 exact hsx
theorem sf_s {r u : List Nat} (hs : Sf r u) : Sf u (inv r) := by
 refine sf_of_tr hs.pu (isP_inv hs.pr) (by rw [hs.eq]; exact hs.le) (by rw [inv_len, hs.eq]) (by rw [hs.eq]; exact hs.pos) (fun S s0 k1 k2 => ?_)
 rw [hs.eq] at k1 k2 ⊢
 refine hs.tr S s0 (fun x hx hsx => ?_) k1
 have hx' : g r x < r.length := g_lt hs.pr hx
 refine closed_back (isP_inv hs.pr) (S := S) (fun y hy => k2 y (by rw [inv_len] at hy; exact hy)) (x := g r x) (by rw [inv_len]; exact hx') ?_
 rw [g_inv hx', ix_g hs.pr hx]
 exact hsx
end Go.Proofs.Ytoijcallajegfaa.M
end
section
/- Plain mathematics: surfaces that are alike by renaming. No conditions. -/
namespace Go.Proofs.Ytoijcallajegfaa.M
set_option linter.unusedVariables false
set_option linter.unusedSimpArgs false
structure Is (s t : List Nat × List Nat) (f : Nat → Nat) : Prop where
 len : t.1.length = s.1.length
 lt : ∀ x, x < s.1.length → f x < s.1.length
 inj : ∀ x y, x < s.1.length → y < s.1.length → f x = f y → x = y
 r : ∀ x, x < s.1.length → f (g s.1 x) = g t.1 (f x)
 u : ∀ x, x < s.1.length → f (g s.2 x) = g t.2 (f x)
theorem Sf.gr {r u : List Nat} (hs : Sf r u) {x : Nat} (h : x < r.length) : g r x < r.length := g_lt hs.pr h
theorem Sf.gu {r u : List Nat} (hs : Sf r u) {x : Nat} (h : x < r.length) : g u x < r.length := by
 have := g_lt hs.pu (i := x) (by rw [hs.eq]; exact h)
 rw [hs.eq] at this
 exact this
theorem Sf.ir {r u : List Nat} (hs : Sf r u) {x : Nat} (h : x < r.length) : ix r x < r.length := ix_lt hs.pr h
theorem Sf.iu {r u : List Nat} (hs : Sf r u) {x : Nat} (h : x < r.length) : ix u x < r.length := by
 have := ix_lt hs.pu (x := x) (by rw [hs.eq]; exact h)
 rw [hs.eq] at this
 exact this
theorem Is.refl (s : List Nat × List Nat) : Is s s (fun x => x) := ⟨rfl, fun _ h => h, fun _ _ _ _ h => h, fun _ _ => rfl, fun _ _ => rfl⟩
theorem Is.trans {s t v : List Nat × List Nat} {f h : Nat → Nat} (a : Is s t f) (b : Is t v h) : Is s v (fun x => h (f x)) where
 len := b.len.trans a.len
 lt x hx := by have := b.lt (f x) (by rw [a.len]; exact a.lt x hx); rw [a.len] at this; exact this
 inj x y hx hy e := a.inj x y hx hy (b.inj _ _ (by rw [a.len]; exact a.lt x hx) (by rw [a.len]; exact a.lt y hy) e)
 r x hx := by show h (f (g s.1 x)) = _; rw [a.r x hx, b.r _ (by rw [a.len]; exact a.lt x hx)]
 u x hx := by show h (f (g s.2 x)) = _; rw [a.u x hx, b.u _ (by rw [a.len]; exact a.lt x hx)]
def bk (n : Nat) (f : Nat → Nat) (y : Nat) : Nat := ix (tab n f) y
theorem bk_lt {n : Nat} {f : Nat → Nat} (h1 : ∀ x, x < n → f x < n) (h2 : ∀ x y, x < n → y < n → f x = f y → x = y) {y : Nat} (hy : y < n) : bk n f y < n := by
 have := ix_lt (isP_tab h1 h2) (x := y) (by rw [tab_len]; exact hy)
 rw [tab_len] at this
 exact this
theorem f_bk {n : Nat} {f : Nat → Nat} (h1 : ∀ x, x < n → f x < n) (h2 : ∀ x y, x < n → y < n → f x = f y → x = y) {y : Nat} (hy : y < n) : f (bk n f y) = y := by
 have h := g_ix (isP_tab h1 h2) (x := y) (by rw [tab_len]; exact hy)
 have hb : ix (tab n f) y < n := bk_lt h1 h2 hy
 rw [g_tab hb] at h
 exact h
theorem bk_f {n : Nat} {f : Nat → Nat} (h1 : ∀ x, x < n → f x < n) (h2 : ∀ x y, x < n → y < n → f x = f y → x = y) {x : Nat} (hx : x < n) : bk n f (f x) = x :=
 h2 _ _ (bk_lt h1 h2 (h1 x hx)) hx (f_bk h1 h2 (h1 x hx))
theorem Is.symm {s t : List Nat × List Nat} {f : Nat → Nat} (hs : Sf s.1 s.2) (a : Is s t f) : Is t s (bk s.1.length f) where
 len := a.len.symm
 lt y hy := by rw [a.len] at hy ⊢; exact bk_lt a.lt a.inj hy
 inj y z hy hz e := by
  rw [a.len] at hy hz
  rw [← f_bk a.lt a.inj hy, ← f_bk a.lt a.inj hz, e]
 r y hy := by
  rw [a.len] at hy
  have hb := bk_lt a.lt a.inj hy
  have e : g t.1 y = f (g s.1 (bk s.1.length f y)) := by rw [a.r _ hb, f_bk a.lt a.inj hy]
  rw [e, bk_f a.lt a.inj (hs.gr hb)]
 u y hy := by
  rw [a.len] at hy
  have hb := bk_lt a.lt a.inj hy
  have e : g t.2 y = f (g s.2 (bk s.1.length f y)) := by rw [a.u _ hb, f_bk a.lt a.inj hy]
  rw [e, bk_f a.lt a.inj (hs.gu hb)]
theorem g_map {l : List Nat} {f : Nat → Nat} {i : Nat} (h : i < l.length) : g (l.map f) i = f (g l i) := by
 rw [g_get (by rw [List.length_map]; exact h), g_get h, List.getElem_map]
theorem st1_map {out : List Nat} {f : Nat → Nat} {n x : Nat} (inj : ∀ x y, x < n → y < n → f x = f y → x = y) (ho : ∀ y ∈ out, y < n) (hx : x < n) : st1 (out.map f) (f x) = (st1 out x).map f := by
 have e : f x ∈ out.map f ↔ x ∈ out := by
  constructor
  ·intro h
   obtain ⟨y, hy, e⟩ := List.mem_map.mp h
   exact inj y x (ho y hy) hx e ▸ hy
  ·exact List.mem_map_of_mem
 unfold st1
 by_cases h : x ∈ out
 ·rw [if_pos h, if_pos (e.mpr h)]
 ·rw [if_neg h, if_neg (fun k => h (e.mp k)), List.map_append]
  rfl
theorem st1_small {out : List Nat} {n x : Nat} (ho : ∀ y ∈ out, y < n) (hx : x < n) : ∀ y ∈ st1 out x, y < n := by
 intro y hy
 rcases st1_mem.mp hy with hy | rfl
 ·exact ho y hy
 ·exact hx
theorem bfs_map {s t : List Nat × List Nat} {f : Nat → Nat} (hs : Sf s.1 s.2) (a : Is s t f) : ∀ (F i : Nat) (out : List Nat), (∀ y ∈ out, y < s.1.length) → bfs t.1 t.2 F i (out.map f) = (bfs s.1 s.2 F i out).map f := by
 intro F
 induction F with
 | zero => intro i out _; rfl
 | succ F ih =>
  intro i out ho
  unfold bfs
  rw [List.length_map]
  by_cases h : i < out.length
  ·rw [if_pos h, if_pos h]
   have hz := ho _ (g_mem h)
   rw [g_map h, ← a.r _ hz, ← a.u _ hz, st1_map a.inj ho (hs.gr hz), st1_map a.inj (st1_small ho (hs.gr hz)) (hs.gu hz)]
   exact ih _ _ (st1_small (st1_small ho (hs.gr hz)) (hs.gu hz))
  ·rw [if_neg h, if_neg h]
theorem reach_map {s t : List Nat × List Nat} {f : Nat → Nat} (hs : Sf s.1 s.2) (a : Is s t f) {i : Nat} (hi : i < s.1.length) : reach t.1 t.2 (f i) = (reach s.1 s.2 i).map f := by
 unfold reach
 rw [a.len]
 exact bfs_map hs a _ _ [i] (by simpa using hi)
theorem ix_map {l : List Nat} {f : Nat → Nat} {n x : Nat} (inj : ∀ x y, x < n → y < n → f x = f y → x = y) (hl : ∀ y ∈ l, y < n) (hx : x < n) : ix (l.map f) (f x) = ix l x := by
 unfold ix
 induction l with
 | nil => rfl
 | cons a l ih =>
  have ha := hl a (by simp)
  rw [List.map_cons, List.idxOf_cons, List.idxOf_cons, ih (fun y hy => hl y (by simp [hy]))]
  by_cases e : a = x
  ·subst e; simp
  ·have e' : ¬ f a = f x := fun k => e (inj a x ha hx k)
   rw [(beq_eq_false_iff_ne).mpr e, (beq_eq_false_iff_ne).mpr e']
theorem Sf.of_is {s t : List Nat × List Nat} {f : Nat → Nat} (hs : Sf s.1 s.2) (a : Is s t f) (p1 : IsP t.1) (p2 : IsP t.2) (hl : t.2.length = t.1.length) : Sf t.1 t.2 := by
 refine sf_of_tr p1 p2 (by rw [a.len]; exact hs.le) hl (by rw [a.len]; exact hs.pos) (fun S s0 k1 k2 y hy => ?_)
 rw [a.len] at k1 k2 hy
 have i0 := bk_lt a.lt a.inj hs.pos
 have h0 : S (f (bk s.1.length f 0)) := by rw [f_bk a.lt a.inj hs.pos]; exact s0
 have hm := (reach_full hs i0).2 (bk s.1.length f y) (bk_lt a.lt a.inj hy)
 have := (bfs_ind (fun x => S (f x)) (n := s.1.length) (fun x hx h => ⟨by rw [a.r x hx]; exact k1 _ (a.lt x hx) h, hs.gr hx⟩) (fun x hx h => ⟨by rw [a.u x hx]; exact k2 _ (a.lt x hx) h, hs.gu hx⟩) _ _ [bk s.1.length f 0] (by intro x hx; obtain rfl : x = bk s.1.length f 0 := (by simpa using hx); exact ⟨h0, i0⟩) _ hm).1
 rw [f_bk a.lt a.inj hy] at this
 exact this
theorem Sf.all_of {r u : List Nat} (hs : Sf r u) {S : Nat → Prop} {i : Nat} (hi : i < r.length) (h0 : S i) (h1 : ∀ x, x < r.length → S x → S (g r x)) (h2 : ∀ x, x < r.length → S x → S (g u x)) : ∀ y, y < r.length → S y := by
 intro y hy
 have hm := (reach_full hs hi).2 y hy
 exact (bfs_ind S (n := r.length) (fun x hx h => ⟨h1 x hx h, hs.gr hx⟩) (fun x hx h => ⟨h2 x hx h, hs.gu hx⟩) _ _ [i] (by intro x hx; obtain rfl : x = i := (by simpa using hx); exact ⟨h0, hi⟩) _ hm).1
theorem Is.ir {s t : List Nat × List Nat} {f : Nat → Nat} (hs : Sf s.1 s.2) (ht : Sf t.1 t.2) (a : Is s t f) {x : Nat} (hx : x < s.1.length) : f (ix s.1 x) = ix t.1 (f x) := by
 have h1 := hs.ir hx
 refine (ix_eq ht.pr (by rw [a.len]; exact a.lt _ h1) ?_).symm
 rw [← a.r _ h1, g_ix hs.pr hx]
theorem Is.iu {s t : List Nat × List Nat} {f : Nat → Nat} (hs : Sf s.1 s.2) (ht : Sf t.1 t.2) (a : Is s t f) {x : Nat} (hx : x < s.1.length) : f (ix s.2 x) = ix t.2 (f x) := by
 have h1 := hs.iu hx
 refine (ix_eq ht.pu (by rw [ht.eq, a.len]; exact a.lt _ h1) ?_).symm
 rw [← a.u _ h1, g_ix hs.pu (by rw [hs.eq]; exact hx)]
end Go.Proofs.Ytoijcallajegfaa.M
end
section
/- The tests of permutations, program and reference, come to one plain test. No conditions. -/
namespace Go.Proofs.Ytoijcallajegfaa.M
set_option linter.unusedVariables false
set_option linter.unusedSimpArgs false
open Go.RowKit Go.Proofs.YtoijcallajegfaaW.PrintWords Go.Proofs.YtoijcallajegfaaW.PrintLast Go.Proofs.YtoijcallajegfaaW.PrintMore Go.Proofs.Ytoijcallajegfaa.A
theorem has_ev (l : List Int) (a : Int) (hl : l.length ≤ 1000000000) : Ev (fun k => Z63.f k l a) (decide (a ∈ l)) := by
 have H : ∀ d i : Nat, i + d = l.length → Ev (fun k => Z63.l0 k a l (l.length : Int) (i : Int)) (decide (a ∈ l.drop i)) := by
  intro d
  induction d with
  | zero =>
   intro i h
   refine ev_succ ?_
   have h1 : ¬ ((i : Int) < (l.length : Int)) := by omega
   have e : decide (a ∈ l.drop i) = false := by
    rw [List.drop_of_length_le (by omega)]
    simp
   simp only [Z63.l0, h1, if_false]
   rw [e]
   exact Ev.now _
  | succ d ih =>
   intro i h
   refine ev_succ ?_
   have hi : i < l.length := by omega
   have h1 : (i : Int) < (l.length : Int) := by omega
   have h2 : (0 : Int) ≤ (i : Int) := by omega
   have h3 := w64s i (by omega)
   have e := List.drop_eq_getElem_cons hi
   rw [← rd_get l i hi] at e
   by_cases hr : rd l (i : Int) = a
   ·have e2 : decide (a ∈ l.drop i) = true := by rw [e, hr]; simp
    simp only [Z63.l0, h1, h2, hr, if_true]
    rw [e2]
    exact Ev.now _
   ·have e2 : decide (a ∈ l.drop i) = decide (a ∈ l.drop (i + 1)) := by
     rw [e]
     have : ¬ a = rd l (i : Int) := fun h => hr h.symm
     simp [this]
    simp only [Z63.l0, h1, h2, h3, hr, if_true, if_false]
    rw [e2]
    exact ih (i + 1) (by omega)
 have := H l.length 0 (by omega)
 simpa [Z63.f] using this
theorem in_f (x : Int) (n : Nat) (hn : n ≤ 24) : Z66.f x 0 (wrap64 ((n : Int) - 1)) = some (decide (0 ≤ x ∧ x < (n : Int))) := by
 unfold Z66.f
 rw [w64 (by omega) (by omega)]
 by_cases h : x ≥ 0
 ·rw [if_pos h]
  congr 1
  rw [Bool.eq_iff_iff, decide_eq_true_iff, decide_eq_true_iff]
  omega
 ·rw [if_neg h]
  congr 1
  symm
  rw [decide_eq_false_iff_not]
  omega
theorem spec_permOk (l : List Int) : Ev (fun k => Z60.f k l) (permB l) := by
 unfold Z60.f
 by_cases h24 : (l.length : Int) > 24
 ·simp only [h24, if_true]
  have : permB l = false := by
   unfold permB
   rw [decide_eq_false_iff_not]
   intro h
   have := h.1
   omega
  rw [this]
  exact Ev.now _
 ·simp only [h24, if_false]
  have H : ∀ d i : Nat, i + d = l.length → ∃ b, Ev (fun k => Z60.l0 k l l (l.length : Int) (i : Int)) b ∧ (b = true ↔ okFrom l i) := by
   intro d
   induction d with
   | zero =>
    intro i h
    refine ⟨true, ev_succ ?_, by simp [okFrom_end l i (by omega)]⟩
    have h1 : ¬ ((i : Int) < (l.length : Int)) := by omega
    simp only [Z60.l0, h1, if_false]
    exact Ev.now _
   | succ d ih =>
    intro i h
    have hi : i < l.length := by omega
    have h1 : (i : Int) < (l.length : Int) := by omega
    have h1' : (i : Int) ≤ (l.length : Int) := by omega
    have h2 : (0 : Int) ≤ (i : Int) := by omega
    have h3 := w64s i (by omega)
    have hin := in_f (rd l (i : Int)) l.length (by omega)
    by_cases c1 : 0 ≤ rd l (i : Int) ∧ rd l (i : Int) < (l.length : Int)
    ·have hh := has_ev (l.take i) (rd l (i : Int)) (by rw [List.length_take]; omega)
     by_cases c2 : rd l (i : Int) ∈ l.take i
     ·refine ⟨false, ev_succ ?_, by simpa using okFrom_not hi (fun h => h.2.2 c2)⟩
      simp only [Z60.l0, h1, h1', h2, hin, c1, if_true, Option.bind_some, decide_true, Int.toNat_natCast, and_self]
      refine Ev.bind hh ?_
      simp only [c2, decide_true, if_true]
      exact Ev.now _
     ·obtain ⟨b, i1, i2⟩ := ih (i + 1) (by omega)
      refine ⟨b, ev_succ ?_, by rw [i2]; exact (okFrom_step ⟨c1.1, c1.2, c2⟩).symm⟩
      simp only [Z60.l0, h1, h1', h2, h3, hin, c1, if_true, Option.bind_some, decide_true, Int.toNat_natCast, and_self]
      refine Ev.bind hh ?_
      simp only [c2, decide_false, Bool.false_eq_true, if_false]
      exact i1
    ·refine ⟨false, ev_succ ?_, by simpa using okFrom_not hi (fun h => c1 ⟨h.1, h.2.1⟩)⟩
     simp only [Z60.l0, h1, h2, hin, c1, if_true, if_false, Option.bind_some, decide_false, Bool.false_eq_true]
     exact Ev.now _
  obtain ⟨b, i1, i2⟩ := H l.length 0 (by omega)
  rw [← permB_of (by omega) i2]
  exact i1
theorem rdOf_nat (s : List Bool) (x : Nat) : rdOf false s (x : Int) = s.getD x false := rfl
theorem getD_set (s : List Bool) (x y : Nat) (h : x < s.length) : (s.set x true).getD y false = if x = y then true else s.getD y false := by
 rw [List.getD_eq_getElem?_getD, List.getD_eq_getElem?_getD, List.getElem?_set]
 by_cases e : x = y
 ·subst e
  simp [h]
 ·simp [e]
theorem impl_permOk (l : List Int) : Ev (fun k => Z56.f k l) (permB l) := by
 unfold Z56.f
 by_cases h24 : (l.length : Int) > 24
 ·simp only [h24, if_true]
  have : permB l = false := by
   unfold permB
   rw [decide_eq_false_iff_not]
   intro h
   have := h.1
   omega
  rw [this]
  exact Ev.now _
 ·simp only [h24, if_false]
  have H : ∀ (d i : Nat) (s : List Bool), i + d = l.length → s.length = 24 → (∀ x : Nat, x < 24 → (s.getD x false = true ↔ (x : Int) ∈ l.take i)) → ∃ b, Ev (fun k => Z56.l0 k l s (i : Int)) b ∧ (b = true ↔ okFrom l i) := by
   intro d
   induction d with
   | zero =>
    intro i s h hs hx
    refine ⟨true, ev_succ ?_, by simp [okFrom_end l i (by omega)]⟩
    have h1 : ¬ ((i : Int) < (l.length : Int)) := by omega
    simp only [Z56.l0, h1, if_false]
    exact Ev.now _
   | succ d ih =>
    intro i s h hs hx
    have hi : i < l.length := by omega
    have h1 : (i : Int) < (l.length : Int) := by omega
    have h2 : (0 : Int) ≤ (i : Int) := by omega
    have h3 := w64s i (by omega)
    by_cases c1 : rd l (i : Int) < 0
    ·refine ⟨false, ev_succ ?_, by simpa using okFrom_not hi (fun h => by omega)⟩
     simp only [Z56.l0, h1, h2, c1, if_true]
     exact Ev.now _
    ·by_cases c2 : rd l (i : Int) ≥ (l.length : Int)
     ·refine ⟨false, ev_succ ?_, by simpa using okFrom_not hi (fun h => by omega)⟩
      simp only [Z56.l0, h1, h2, c1, c2, if_true, if_false]
      exact Ev.now _
     ·obtain ⟨x, ex⟩ : ∃ x : Nat, rd l (i : Int) = (x : Int) := ⟨(rd l (i : Int)).toNat, by omega⟩
      have hx24 : x < 24 := by omega
      by_cases c3 : s.getD x false = true
      ·have hm := (hx x hx24).mp c3
       refine ⟨false, ev_succ ?_, by simpa using okFrom_not hi (fun h => h.2.2 (by rw [ex]; exact hm))⟩
       rw [ex] at c1 c2
       simp only [Z56.l0, h1, h2, ex, c1, c2, rdOf_nat, c3, if_true, if_false]
       exact Ev.now _
      ·have hm : (x : Int) ∉ l.take i := fun h => c3 ((hx x hx24).mpr h)
       obtain ⟨b, i1, i2⟩ := ih (i + 1) (s.set x true) (by omega) (by rw [List.length_set]; exact hs) (fun y hy => by
        rw [getD_set s x y (by omega), take_succ l i hi, ex]
        by_cases e : x = y
        ·subst e
         simp
        ·rw [if_neg e, hx y hy]
         have : ¬ (y : Int) = (x : Int) := by omega
         simp [this])
       refine ⟨b, ev_succ ?_, by rw [i2]; exact (okFrom_step ⟨by omega, by omega, by rw [ex]; exact hm⟩).symm⟩
       rw [ex] at c1 c2
       simp only [Z56.l0, h1, h2, h3, ex, c1, c2, rdOf_nat, c3, if_true, if_false, Int.toNat_natCast]
       exact i1
  obtain ⟨b, i1, i2⟩ := H l.length 0 (List.replicate 24 false) (by omega) rfl (fun x hx => by
   have : (List.replicate 24 false).getD x false = false := by
    rw [List.getD_eq_getElem?_getD, List.getElem?_replicate]
    simp [hx]
   rw [this]
   simp)
  rw [← permB_of (by omega) i2]
  exact i1
end Go.Proofs.Ytoijcallajegfaa.M
end
section
/- The tests of surfaces, program and reference, come to one plain test. No conditions. -/
namespace Go.Proofs.Ytoijcallajegfaa.M
set_option linter.unusedVariables false
set_option linter.unusedSimpArgs false
open Go.RowKit Go.Proofs.YtoijcallajegfaaW.PrintWords Go.Proofs.YtoijcallajegfaaW.PrintLast Go.Proofs.YtoijcallajegfaaW.PrintMore Go.Proofs.Ytoijcallajegfaa.A
theorem I_pair (a b : Nat) : ([(a : Int), (b : Int)] : List Int) = I [a, b] := rfl
theorem I_len' (l : List Nat) : ((I l).length : Int) = (l.length : Int) := by rw [I_len]
theorem st1_I (out : List Nat) (x : Nat) : I (st1 out x) = if (x : Int) ∈ I out then I out else I out ++ [(x : Int)] := by
 unfold st1
 by_cases h : x ∈ out
 ·rw [if_pos h, if_pos (mem_I.mpr h)]
 ·rw [if_neg h, if_neg (fun k => h (mem_I.mp k)), I_snoc]
theorem reach_one (p q out pr : List Nat) (a : Nat) (j : Nat) (hj : j < pr.length) (hp : pr.length ≤ 2) (hl : out.length ≤ 1000) (r : List Int)
  (H : Ev (fun k => Z43.l1 k (I p) (I q) (I (st1 out (g pr j))) (a : Int) (I pr) (pr.length : Int) ((j + 1 : Nat) : Int)) r) :
  Ev (fun k => Z43.l1 k (I p) (I q) (I out) (a : Int) (I pr) (pr.length : Int) (j : Int)) r := by
 refine ev_succ ?_
 have h1 : (j : Int) < (pr.length : Int) := by omega
 have h2 : (0 : Int) ≤ (j : Int) := by omega
 have h3 := w64s j (by omega)
 have h4 : (I out).length < 17592186044416 := by rw [I_len]; omega
 have hh := has_ev (I out) ((g pr j : Nat) : Int) (by rw [I_len]; omega)
 simp only [Z43.l1, h1, h2, h3, h4, rdI, I_len', if_true]
 refine Ev.bind hh ?_
 rw [st1_I] at H
 by_cases hm : ((g pr j : Nat) : Int) ∈ I out
 ·rw [if_pos hm] at H
  simp only [hm, decide_true, if_true]
  exact H
 ·rw [if_neg hm] at H
  simp only [hm, decide_false, Bool.false_eq_true, if_false]
  exact H
theorem reach_loop {p q : List Nat} (hp : IsP p) (hq : IsP q) (hl : q.length = p.length) (h24 : p.length ≤ 24) (f : Nat) : ∀ (a : Nat) (out : List Nat), RInv p.length out → a ≤ out.length → p.length < f + a →
  Ev (fun k => Z43.l0 k (I p) (I q) (I out) (a : Int)) (I (bfs p q f a out)) := by
 induction f with
 | zero =>
  intro a out hr ha hf
  have := hr.le
  omega
 | succ f ih =>
  intro a out hr ha hf
  have hle := hr.le
  refine ev_succ ?_
  by_cases h : a < out.length
  ·have h1 : (a : Int) < (out.length : Int) := by omega
   have h2 : (0 : Int) ≤ (a : Int) := by omega
   have hx := hr.g h
   have h3 : ((g out a : Nat) : Int) < (p.length : Int) := by omega
   have h4 : (0 : Int) ≤ ((g out a : Nat) : Int) := by omega
   have h5 : ((g out a : Nat) : Int) < (q.length : Int) := by omega
   have h6 := w64s a (by omega)
   simp only [Z43.l0, h1, h2, h3, h4, h5, rdI, I_len', if_true, Option.bind_some, I_pair]
   have r1 := hr.st (g_lt hp hx)
   have r2 := r1.st (x := g q (g out a)) (by have := g_lt hq (i := g out a) (by omega); omega)
   have hb : bfs p q (f + 1) a out = bfs p q f (a + 1) (st1 (st1 out (g p (g out a))) (g q (g out a))) := by
    rw [bfs, if_pos h]
   rw [hb]
   have i1 := ih (a + 1) _ r2 (by have := st1_len out (g p (g out a)); have := st1_len (st1 out (g p (g out a))) (g q (g out a)); omega) (by omega)
   refine reach_one p q out [g p (g out a), g q (g out a)] a 0 (by simp) (by simp) (by omega) _ ?_
   refine reach_one p q _ [g p (g out a), g q (g out a)] a 1 (by simp) (by simp) (by have := r1.le; simp only [g, List.getD_cons_zero] at this ⊢; omega) _ ?_
   refine ev_succ ?_
   have h7 : ¬ (((1 + 1 : Nat) : Int) < (([g p (g out a), g q (g out a)] : List Nat).length : Int)) := by simp
   simp only [Z43.l1, h7, h6, if_false]
   exact i1
  ·have h1 : ¬ ((a : Int) < (out.length : Int)) := by omega
   have hb : bfs p q (f + 1) a out = out := by rw [bfs, if_neg h]
   rw [hb]
   simp only [Z43.l0, h1, I_len', if_false]
   exact Ev.now _
theorem reach_ev {p q : List Nat} (hp : IsP p) (hq : IsP q) (hl : q.length = p.length) (h24 : p.length ≤ 24) (s : Nat) (hs : s < p.length) : Ev (fun k => Z43.f k (I p) (I q) (s : Int)) (I (reach p q s)) := by
 unfold Z43.f reach
 exact reach_loop hp hq hl h24 (p.length + 1) 0 [s] ⟨by simp, by simpa using hs⟩ (by simp) (by omega)
theorem len_ne_false {r u : List Int} (h : r.length ≠ u.length) : surfB r u = false := by
 unfold surfB
 simp [h]
theorem surfB_mk {r u : List Int} (h1 : permB r = true) (h2 : permB u = true) (h3 : r.length = u.length) (h4 : 0 < r.length) : surfB r u = ((reach (N r) (N u) 0).length == r.length) := by
 unfold surfB
 simp [h1, h2, h3, h4]
 intro _
 omega
theorem spec_trans (r u : List Int) : Ev (fun k => Z14.f k r u) (surfB r u) := by
 unfold Z14.f
 refine Ev.bind (spec_permOk r) ?_
 by_cases h1 : permB r = true
 ·simp only [h1, if_true]
  refine Ev.bind (spec_permOk u) ?_
  by_cases h2 : permB u = true
  ·simp only [h2, if_true]
   by_cases h3 : (r.length : Int) = (u.length : Int)
   ·have h3' : r.length = u.length := by omega
    by_cases h4 : (r.length : Int) > 0
    ·have h4' : 0 < r.length := by omega
     rw [surfB_mk h1 h2 h3' h4']
     obtain ⟨p, rfl, a1, a2⟩ := PI_nat (of_decide_eq_true h1)
     obtain ⟨q, rfl, b1, b2⟩ := PI_nat (of_decide_eq_true h2)
     rw [I_len, I_len] at h3'
     rw [I_len] at h4'
     have := reach_ev a1 b1 h3'.symm a2 0 h4'
     simp only [h3, h4, if_true]
     rw [h3] at h4
     simp only [h4, if_true]
     refine Ev.bind this ?_
     rw [N_I, N_I]
     have e : (((I (reach p q 0)).length : Int) == ((I q).length : Int)) = ((reach p q 0).length == (I p).length) := by
      rw [I_len, I_len, I_len, Bool.eq_iff_iff, beq_iff_eq, beq_iff_eq]
      omega
     rw [← h3] at e
     simp only [h3] at e
     rw [← e]
     exact Ev.now _
    ·simp only [h3, if_true]
     rw [h3] at h4
     simp only [h4, if_false]
     have : surfB r u = false := by
      unfold surfB
      have : ¬ 0 < r.length := by omega
      simp [this]
     rw [this]
     exact Ev.now _
   ·simp only [h3, if_false]
    rw [len_ne_false (by omega)]
    exact Ev.now _
  ·have h2' := Bool.eq_false_iff.mpr h2
   simp only [h2', Bool.false_eq_true, if_false]
   have : surfB r u = false := by unfold surfB; simp [h2']
   rw [this]
   exact Ev.now _
 ·have h1' := Bool.eq_false_iff.mpr h1
  simp only [h1', Bool.false_eq_true, if_false]
  have : surfB r u = false := by unfold surfB; simp [h1']
  rw [this]
  exact Ev.now _
theorem spec_surf (r u : List Int) : Ev (fun k => Z33.f k r u) (surfB r u) := by
 unfold Z33.f
 exact Ev.bind (spec_trans r u) (Ev.now _)
def Marks (n : Nat) (s : List Bool) (out : List Nat) : Prop := s.length = n ∧ ∀ x, x < n → (s.getD x false = true ↔ x ∈ out)
theorem Marks.add {n : Nat} {s : List Bool} {out : List Nat} {x : Nat} (h : Marks n s out) (hx : x < n) : Marks n (s.set x true) (out ++ [x]) := by
 refine ⟨by rw [List.length_set]; exact h.1, fun y hy => ?_⟩
 rw [getD_set s x y (by rw [h.1]; exact hx)]
 by_cases e : x = y
 ·subst e
  simp
 ·rw [if_neg e, h.2 y hy]
  have : ¬ y = x := fun k => e k.symm
  simp [this]
theorem trans_one (p q out pr : List Nat) (s : List Bool) (a : Nat) (j : Nat) (hj : j < pr.length) (hp : pr.length ≤ 2) (hl : out.length ≤ 1000) (hm : Marks p.length s out) (hx : g pr j < p.length) (r : Bool)
  (H : ∀ s', Marks p.length s' (st1 out (g pr j)) → Ev (fun k => Z12.l1 k (I p) (I q) s' (I (st1 out (g pr j))) (a : Int) (I pr) (pr.length : Int) ((j + 1 : Nat) : Int)) r) :
  Ev (fun k => Z12.l1 k (I p) (I q) s (I out) (a : Int) (I pr) (pr.length : Int) (j : Int)) r := by
 refine ev_succ ?_
 have h1 : (j : Int) < (pr.length : Int) := by omega
 have h2 : (0 : Int) ≤ (j : Int) := by omega
 have h3 := w64s j (by omega)
 have h4 : (I out).length < 17592186044416 := by rw [I_len]; omega
 have h5 : (0 : Int) ≤ ((g pr j : Nat) : Int) := by omega
 have h6 : ((g pr j : Nat) : Int) < (s.length : Int) := by rw [hm.1]; omega
 simp only [Z12.l1, h1, h2, h3, h4, h5, h6, rdI, I_len', rdOf_nat, if_true, Int.toNat_natCast]
 by_cases hin : g pr j ∈ out
 ·have hs := (hm.2 _ hx).mpr hin
  have e : st1 out (g pr j) = out := by unfold st1; rw [if_pos hin]
  have := H s (by rw [e]; exact hm)
  rw [e] at this
  simp only [hs, if_true]
  exact this
 ·have hs : s.getD (g pr j) false = false := Bool.eq_false_iff.mpr (fun h => hin ((hm.2 _ hx).mp h))
  have e : st1 out (g pr j) = out ++ [g pr j] := by unfold st1; rw [if_neg hin]
  have := H (s.set (g pr j) true) (by rw [e]; exact hm.add hx)
  rw [e, ← I_snoc] at this
  simp only [hs, Bool.false_eq_true, if_false]
  exact this
theorem trans_loop {p q : List Nat} (hp : IsP p) (hq : IsP q) (hl : q.length = p.length) (h24 : p.length ≤ 24) (f : Nat) : ∀ (a : Nat) (out : List Nat) (s : List Bool), RInv p.length out → Marks p.length s out → a ≤ out.length → p.length < f + a →
  Ev (fun k => Z12.l0 k (I p) (I q) s (I out) (a : Int)) ((bfs p q f a out).length == p.length) := by
 induction f with
 | zero =>
  intro a out s hr hm ha hf
  have := hr.le
  omega
 | succ f ih =>
  intro a out s hr hm ha hf
  have hle := hr.le
  refine ev_succ ?_
  by_cases h : a < out.length
  ·have h1 : (a : Int) < (out.length : Int) := by omega
   have h2 : (0 : Int) ≤ (a : Int) := by omega
   have hx := hr.g h
   have h3 : ((g out a : Nat) : Int) < (p.length : Int) := by omega
   have h4 : (0 : Int) ≤ ((g out a : Nat) : Int) := by omega
   have h5 : ((g out a : Nat) : Int) < (q.length : Int) := by omega
   have h6 := w64s a (by omega)
   simp only [Z12.l0, h1, h2, h3, h4, h5, rdI, I_len', if_true, Option.bind_some, I_pair]
   have hg1 := g_lt hp hx
   have hg2 : g q (g out a) < p.length := by have := g_lt hq (i := g out a) (by omega); omega
   have r1 := hr.st hg1
   have r2 := r1.st hg2
   have hb : bfs p q (f + 1) a out = bfs p q f (a + 1) (st1 (st1 out (g p (g out a))) (g q (g out a))) := by
    rw [bfs, if_pos h]
   rw [hb]
   refine trans_one p q out [g p (g out a), g q (g out a)] s a 0 (by simp) (by simp) (by omega) hm hg1 _ (fun s1 hm1 => ?_)
   refine trans_one p q _ [g p (g out a), g q (g out a)] s1 a 1 (by simp) (by simp) (by have := r1.le; simp only [g, List.getD_cons_zero] at this ⊢; omega) hm1 hg2 _ (fun s2 hm2 => ?_)
   refine ev_succ ?_
   have h7 : ¬ (((1 + 1 : Nat) : Int) < (([g p (g out a), g q (g out a)] : List Nat).length : Int)) := by simp
   simp only [Z12.l1, h7, h6, if_false]
   exact ih (a + 1) _ s2 r2 hm2 (Nat.le_trans (by omega : a + 1 ≤ out.length) (Nat.le_trans (st1_len _ _) (st1_len _ _))) (by omega)
  ·have h1 : ¬ ((a : Int) < (out.length : Int)) := by omega
   have hb : bfs p q (f + 1) a out = out := by rw [bfs, if_neg h]
   rw [hb]
   simp only [Z12.l0, h1, I_len', if_false]
   have e : ((out.length : Int) == (p.length : Int)) = (out.length == p.length) := by
    rw [Bool.eq_iff_iff, beq_iff_eq, beq_iff_eq]
    omega
   rw [e]
   exact Ev.now _
theorem j0_true (r u : List Int) : Ev (fun k => Z12.j0 k r u true) false := by
 refine ev_succ ?_
 simp only [Z12.j0, if_true]
 exact Ev.now _
theorem impl_trans (r u : List Int) : Ev (fun k => Z12.f k r u) (surfB r u) := by
 unfold Z12.f
 refine Ev.bind (impl_permOk r) ?_
 by_cases h1 : permB r = true
 ·simp only [h1, if_true]
  refine Ev.bind (impl_permOk u) ?_
  by_cases h2 : permB u = true
  ·simp only [h2, if_true]
   by_cases h3 : (r.length : Int) = (u.length : Int)
   ·have h3' : r.length = u.length := by omega
    simp only [h3, if_true]
    by_cases h4 : 0 < r.length
    ·rw [surfB_mk h1 h2 h3' h4]
     obtain ⟨p, rfl, a1, a2⟩ := PI_nat (of_decide_eq_true h1)
     obtain ⟨q, rfl, b1, b2⟩ := PI_nat (of_decide_eq_true h2)
     rw [I_len, I_len] at h3'
     rw [I_len] at h4
     refine ev_succ ?_
     have e0 : ((q.length : Int) == 0) = false := by rw [beq_eq_false_iff_ne]; omega
     have e1 : (0 : Int) ≤ (p.length : Int) := by omega
     have e2 : ((p.length : Int)).toNat ≤ 281474976710656 := by omega
     have e3 : (0 : Int) < ((List.replicate p.length false).length : Int) := by rw [List.length_replicate]; omega
     simp only [Z12.j0, e0, I_len', e1, e2, Bool.false_eq_true, if_true, if_false, Option.bind_some, Int.toNat_natCast, e3]
     simp only [Int.toNat_natCast] at e2
     simp only [e2, if_true]
     rw [N_I, N_I, I_len]
     refine trans_loop a1 b1 h3'.symm a2 (p.length + 1) 0 [0] _ ⟨by simp, by simpa using h4⟩ ?_ (by simp) (by omega)
     refine ⟨by simp, fun x hx => ?_⟩
     have : (0 : Int).toNat = 0 := rfl
     rw [this, getD_set _ 0 x (by simp; omega)]
     by_cases e : 0 = x
     ·subst e
      simp
     ·rw [if_neg e]
      have h0 : ¬ x = 0 := fun h => e h.symm
      have : (List.replicate p.length false).getD x false = false := by
       rw [List.getD_eq_getElem?_getD, List.getElem?_replicate]
       simp [hx]
      rw [this]
      simp [h0]
    ·have e0 : ((u.length : Int) == 0) = true := by rw [beq_iff_eq]; omega
     have : surfB r u = false := by unfold surfB; simp [h4]
     rw [this]
     simp only [e0]
     exact j0_true r u
   ·simp only [h3, if_false]
    rw [len_ne_false (by omega)]
    exact j0_true r u
  ·have h2' := Bool.eq_false_iff.mpr h2
   simp only [h2', Bool.false_eq_true, if_false]
   have : surfB r u = false := by unfold surfB; simp [h2']
   rw [this]
   exact j0_true r u
 ·have h1' := Bool.eq_false_iff.mpr h1
  simp only [h1', Bool.false_eq_true, if_false]
  have : surfB r u = false := by unfold surfB; simp [h1']
  rw [this]
  exact j0_true r u
theorem impl_surf (r u : List Int) : Ev (fun k => Z31.f k r u) (surfB r u) := by
 unfold Z31.f
 exact Ev.bind (impl_trans r u) (Ev.now _)
end Go.Proofs.Ytoijcallajegfaa.M
end
section
/- What every law does with its arguments; inverses. No conditions. -/
namespace Go.Proofs.Ytoijcallajegfaa.M
set_option linter.unusedVariables false
set_option linter.unusedSimpArgs false
open Go.RowKit Go.Proofs.YtoijcallajegfaaW.PrintWords Go.Proofs.YtoijcallajegfaaW.PrintLast Go.Proofs.YtoijcallajegfaaW.PrintMore Go.Proofs.Ytoijcallajegfaa.A
theorem rd_set {l : List Int} {i j : Nat} {x : Int} (h : i < l.length) : rd (l.set i x) (j : Int) = if i = j then x else rd l (j : Int) := by
 unfold rd
 simp only [Int.toNat_natCast]
 rw [List.getD_eq_getElem?_getD, List.getD_eq_getElem?_getD, List.getElem?_set]
 by_cases e : i = j
 ·subst e
  simp [h]
 ·simp [e]
theorem ext_rd {a b : List Int} (hl : a.length = b.length) (h : ∀ i : Nat, i < a.length → rd a (i : Int) = rd b (i : Int)) : a = b := by
 apply List.ext_getElem hl
 intro i h1 h2
 rw [← rd_get a i h1, ← rd_get b i h2]
 exact h i h1
theorem inv_of {p c : List Nat} (hp : IsP p) (hc : c.length = p.length) (h : ∀ j, j < p.length → g c (g p j) = j) : c = inv p := by
 refine ext_g (by rw [inv_len, hc]) (fun x hx => ?_)
 rw [hc] at hx
 rw [g_inv hx]
 have := h (ix p x) (ix_lt hp hx)
 rw [g_ix hp hx] at this
 exact this
theorem inv_step {p c : List Nat} (hp : IsP p) {i : Nat} (hi : i < p.length) (hc : c.length = p.length) (h : ∀ j, j < i → g c (g p j) = j) : ∀ j, j < i + 1 → g (c.set (g p i) i) (g p j) = j := by
 intro j hj
 rw [g_set (by rw [hc]; exact g_lt hp hi)]
 by_cases e : j = i
 ·subst e
  simp
 ·rw [if_neg (fun k => e (g_inj hp (by omega) hi k.symm))]
  exact h j (by omega)
theorem spec_inv {p : List Nat} (hp : IsP p) (h24 : p.length ≤ 24) : Ev (fun k => Z26.f k (I p)) (I (inv p)) := by
 unfold Z26.f
 have H : ∀ (d i : Nat) (c : List Nat), i + d = p.length → c.length = p.length → (∀ j, j < i → g c (g p j) = j) → Ev (fun k => Z26.l0 k (I c) (I p) (p.length : Int) (i : Int)) (I (inv p)) := by
  intro d
  induction d with
  | zero =>
   intro i c h hc hx
   refine ev_succ ?_
   have h1 : ¬ ((i : Int) < (p.length : Int)) := by omega
   rw [← inv_of hp hc (fun j hj => hx j (by omega))]
   simp only [Z26.l0, h1, if_false]
   exact Ev.now _
  | succ d ih =>
   intro i c h hc hx
   refine ev_succ ?_
   have hi : i < p.length := by omega
   have h1 : (i : Int) < (p.length : Int) := by omega
   have h2 : (0 : Int) ≤ (i : Int) := by omega
   have h3 := w64s i (by omega)
   have h4 : (0 : Int) ≤ ((g p i : Nat) : Int) := by omega
   have h5 : ((g p i : Nat) : Int) < (c.length : Int) := by have := g_lt hp hi; omega
   simp only [Z26.l0, h1, h2, h3, h4, h5, rdI, I_len', I_set, if_true, Int.toNat_natCast]
   exact ih (i + 1) _ (by omega) (by rw [List.length_set]; exact hc) (inv_step hp hi hc hx)
 have h1 : (0 : Int) ≤ (p.length : Int) := by omega
 have h2 : p.length ≤ 35184372088832 := by omega
 simp only [I_len', h1, h2, if_true, Int.toNat_natCast]
 have := H p.length 0 (List.replicate p.length 0) (by omega) (by simp) (fun j hj => by omega)
 rw [I_rep] at this
 exact this
theorem impl_inv {p : List Nat} (hp : IsP p) (h24 : p.length ≤ 24) : Ev (fun k => Z17.f k (I p)) (I (inv p)) := by
 unfold Z17.f
 have H : ∀ (d i : Nat) (c : List Nat), i + d = p.length → c.length = p.length → (∀ j, j < i → g c (g p j) = j) → Ev (fun k => Z17.l0 k (I c) (I p) (p.length : Int) (i : Int)) (I (inv p)) := by
  intro d
  induction d with
  | zero =>
   intro i c h hc hx
   refine ev_succ ?_
   have h1 : ¬ ((i : Int) < (p.length : Int)) := by omega
   rw [← inv_of hp hc (fun j hj => hx j (by omega))]
   simp only [Z17.l0, h1, if_false]
   exact Ev.now _
  | succ d ih =>
   intro i c h hc hx
   refine ev_succ ?_
   have hi : i < p.length := by omega
   have h1 : (i : Int) < (p.length : Int) := by omega
   have h2 : (0 : Int) ≤ (i : Int) := by omega
   have h3 := w64s i (by omega)
   have h4 : (0 : Int) ≤ ((g p i : Nat) : Int) := by omega
   have h5 : ((g p i : Nat) : Int) < (c.length : Int) := by have := g_lt hp hi; omega
   simp only [Z17.l0, h1, h2, h3, h4, h5, rdI, I_len', I_set, if_true, Int.toNat_natCast]
   exact ih (i + 1) _ (by omega) (by rw [List.length_set]; exact hc) (inv_step hp hi hc hx)
 refine Ev.bind (impl_permOk (I p)) ?_
 have h0 : permB (I p) = true := permB_I.mpr ⟨hp, h24⟩
 have h1 : (0 : Int) ≤ (p.length : Int) := by omega
 have h2 : p.length ≤ 35184372088832 := by omega
 simp only [h0, I_len', h1, h2, if_true, Int.toNat_natCast]
 have := H p.length 0 (List.replicate p.length 0) (by omega) (by simp) (fun j hj => by omega)
 rw [I_rep] at this
 exact this
end Go.Proofs.Ytoijcallajegfaa.M
end
section
/- Names from a square, and renaming: the program and the reference act alike. No conditions. -/
namespace Go.Proofs.Ytoijcallajegfaa.M
set_option linter.unusedVariables false
set_option linter.unusedSimpArgs false
open Go.RowKit Go.Proofs.YtoijcallajegfaaW.PrintWords Go.Proofs.YtoijcallajegfaaW.PrintLast Go.Proofs.YtoijcallajegfaaW.PrintMore Go.Proofs.Ytoijcallajegfaa.A
theorem set_mid5 {α : Type} (p : List α) (x y : α) (xs : List α) : (p ++ x :: xs).set p.length y = p ++ y :: xs := by
 induction p with
 | nil => rfl
 | cons a p ih => simp [ih]
theorem isP_reach {r u : List Nat} (hs : Sf r u) {s : Nat} (h : s < r.length) : IsP (reach r u s) ∧ (reach r u s).length = r.length := by
 obtain ⟨h1, h2⟩ := reach_full hs h
 have l1 := h1.le
 have l2 := nodup_sub_len5 (List.range r.length) (reach r u s) List.nodup_range (fun x hx => h2 x (List.mem_range.mp hx))
 rw [List.length_range] at l2
 have hl : (reach r u s).length = r.length := by omega
 exact ⟨⟨fun x hx => by rw [hl]; exact h1.lt x hx, h1.nd⟩, hl⟩
def nm (r u : List Nat) (s : Nat) : List Nat := inv (reach r u s)
theorem isP_nm {r u : List Nat} (hs : Sf r u) {s : Nat} (h : s < r.length) : IsP (nm r u s) ∧ (nm r u s).length = r.length := by
 obtain ⟨h1, h2⟩ := isP_reach hs h
 exact ⟨isP_inv h1, by unfold nm; rw [inv_len, h2]⟩
theorem ren_of {p q c : List Nat} (hq : IsP q) (hl : q.length = p.length) (hc : c.length = p.length) (h : ∀ j, j < p.length → g c (g q j) = g q (g p j)) : c = ren p q := by
 refine ext_g (by rw [ren_len, hc]) (fun x hx => ?_)
 rw [hc] at hx
 rw [g_ren hx]
 have hx' : ix q x < q.length := ix_lt hq (by omega)
 have := h (ix q x) (by omega)
 rw [g_ix hq (by omega)] at this
 exact this
theorem ren_step {p q c : List Nat} (hq : IsP q) (hl : q.length = p.length) {i : Nat} (hi : i < p.length) (hc : c.length = p.length) (h : ∀ j, j < i → g c (g q j) = g q (g p j)) : ∀ j, j < i + 1 → g (c.set (g q i) (g q (g p i))) (g q j) = g q (g p j) := by
 intro j hj
 have hlt : g q i < c.length := by rw [hc, ← hl]; exact g_lt hq (by omega)
 rw [g_set hlt]
 by_cases e : j = i
 ·subst e
  simp
 ·rw [if_neg (fun k => e (g_inj hq (by omega) (by omega) k.symm))]
  exact h j (by omega)
theorem impl_ren {p q : List Nat} (hp : IsP p) (hq : IsP q) (hl : q.length = p.length) (h24 : p.length ≤ 24) : Ev (fun k => Z24.f k (I p) (I q)) (I (ren p q)) := by
 unfold Z24.f
 have H : ∀ (d i : Nat) (c : List Nat), i + d = p.length → c.length = p.length → (∀ j, j < i → g c (g q j) = g q (g p j)) → Ev (fun k => Z24.l0 k (I q) (I c) (I p) (p.length : Int) (i : Int)) (I (ren p q)) := by
  intro d
  induction d with
  | zero =>
   intro i c h hc hx
   refine ev_succ ?_
   have h1 : ¬ ((i : Int) < (p.length : Int)) := by omega
   rw [← ren_of hq hl hc (fun j hj => hx j (by omega))]
   simp only [Z24.l0, h1, if_false]
   exact Ev.now _
  | succ d ih =>
   intro i c h hc hx
   refine ev_succ ?_
   have hi : i < p.length := by omega
   have k1 := g_lt hp hi
   have k2 := g_lt hq (i := i) (by omega)
   have h1 : (i : Int) < (p.length : Int) := by omega
   have h2 : (0 : Int) ≤ (i : Int) := by omega
   have h4 : (i : Int) < (q.length : Int) := by omega
   have h5 : (0 : Int) ≤ ((g p i : Nat) : Int) := by omega
   have h6 : ((g p i : Nat) : Int) < (q.length : Int) := by omega
   have h7 : (0 : Int) ≤ ((g q i : Nat) : Int) := by omega
   have h8 : ((g q i : Nat) : Int) < (c.length : Int) := by omega
   have h3 := w64s i (by omega)
   simp only [Z24.l0, h1, h2, h3, h4, h5, h6, h7, h8, rdI, I_len', I_set, if_true, Int.toNat_natCast]
   exact ih (i + 1) _ (by omega) (by rw [List.length_set]; exact hc) (ren_step hq hl hi hc hx)
 have b1 : permB (I p) = true := permB_I.mpr ⟨hp, h24⟩
 have b2 : permB (I q) = true := permB_I.mpr ⟨hq, by omega⟩
 refine Ev.bind (impl_permOk _) ?_
 simp only [b1, if_true]
 refine Ev.bind (impl_permOk _) ?_
 have e : ((p.length : Int) != (q.length : Int)) = false := by rw [bne_eq_false_iff_eq]; omega
 simp only [b2, I_len', e, if_true]
 refine ev_succ ?_
 have h1 : (0 : Int) ≤ (p.length : Int) := by omega
 have h2 : p.length ≤ 35184372088832 := by omega
 simp only [Z24.j0, I_len', h1, h2, Bool.false_eq_true, if_false, if_true, Int.toNat_natCast]
 have := H p.length 0 (List.replicate p.length 0) (by omega) (by simp) (fun j hj => by omega)
 rw [I_rep] at this
 exact this
def rnS (r u q : List Nat) : List Nat × List Nat := (ren r q, ren u q)
theorem impl_renS {r u q : List Nat} (hs : Sf r u) (hq : IsP q) (hl : q.length = r.length) : Ev (fun k => Z8.f k (I r) (I u) (I q)) (I (rnS r u q).1, I (rnS r u q).2, true) := by
 unfold Z8.f
 have h0 := surfB_I.mpr hs
 have hle := hs.le
 have b2 : permB (I q) = true := permB_I.mpr ⟨hq, by omega⟩
 refine Ev.bind (impl_surf _ _) ?_
 simp only [h0, if_true]
 refine Ev.bind (impl_permOk _) ?_
 have e : ((q.length : Int) != (r.length : Int)) = false := by rw [bne_eq_false_iff_eq]; omega
 simp only [b2, I_len', e, if_true]
 refine ev_succ ?_
 simp only [Z8.j0, Bool.false_eq_true, if_false]
 exact Ev.bind (impl_ren hs.pr hq hl hs.le) (Ev.bind (impl_ren hs.pu hq (by rw [hl, hs.eq]) (by rw [hs.eq]; exact hs.le)) (Ev.now _))
def nmP (n : Nat) (out : List Nat) : List Int := (List.range n).map (fun x => if x ∈ out then ((out.idxOf x : Nat) : Int) else -1)
theorem nmP_len (n : Nat) (out : List Nat) : (nmP n out).length = n := by simp [nmP]
theorem rd_nmP {n : Nat} {out : List Nat} {x : Nat} (h : x < n) : rd (nmP n out) (x : Int) = if x ∈ out then ((out.idxOf x : Nat) : Int) else -1 := by
 rw [rd_get _ _ (by rw [nmP_len]; exact h)]
 simp [nmP]
theorem nmP_add {n : Nat} {out : List Nat} {x : Nat} (h : x < n) (hn : x ∉ out) : (nmP n out).set x (out.length : Int) = nmP n (out ++ [x]) := by
 refine ext_rd (by rw [List.length_set, nmP_len, nmP_len]) (fun i hi => ?_)
 rw [List.length_set, nmP_len] at hi
 rw [rd_set (by rw [nmP_len]; exact h), rd_nmP hi, rd_nmP hi]
 by_cases e : x = i
 ·subst e
  have : x ∈ out ++ [x] := by simp
  rw [if_pos rfl, if_pos this, List.idxOf_append, if_neg hn]
  simp
 ·rw [if_neg e]
  by_cases hm : i ∈ out
  ·have : i ∈ out ++ [x] := by simp [hm]
   rw [if_pos hm, if_pos this, List.idxOf_append, if_pos hm]
  ·have : i ∉ out ++ [x] := by simp [hm]; omega
   rw [if_neg hm, if_neg this]
theorem nmP_full {n : Nat} {out : List Nat} (hl : out.length = n) (h : ∀ x, x < n → x ∈ out) : nmP n out = I (inv out) := by
 refine ext_rd (by rw [nmP_len, I_len, inv_len, hl]) (fun i hi => ?_)
 rw [nmP_len] at hi
 rw [rd_nmP hi, if_pos (h i hi), rdI, g_inv (by omega)]
 rfl
theorem names_one {p q : List Nat} {out pr : List Nat} (a j : Nat) (hj : j < pr.length) (hpr : pr.length ≤ 2) (hl : out.length ≤ 1000) (hx : g pr j < p.length) (res : List Int)
  (H : Ev (fun k => Z29.l2 k (nmP p.length (st1 out (g pr j))) (I (st1 out (g pr j))) (a : Int) (I pr) (pr.length : Int) ((j + 1 : Nat) : Int) (I p) (I q)) res) :
  Ev (fun k => Z29.l2 k (nmP p.length out) (I out) (a : Int) (I pr) (pr.length : Int) (j : Int) (I p) (I q)) res := by
 refine ev_succ ?_
 have h1 : (j : Int) < (pr.length : Int) := by omega
 have h2 : (0 : Int) ≤ (j : Int) := by omega
 have h4 : (I out).length < 17592186044416 := by rw [I_len]; omega
 have h5 : (0 : Int) ≤ ((g pr j : Nat) : Int) := by omega
 have h6 : ((g pr j : Nat) : Int) < ((nmP p.length out).length : Int) := by rw [nmP_len]; omega
 have h7 : rd (nmP p.length out) ((g pr j : Nat) : Int) = if g pr j ∈ out then ((out.idxOf (g pr j) : Nat) : Int) else -1 := rd_nmP hx
 have h3 := w64s j (by omega)
 by_cases hin : g pr j ∈ out
 ·have e : st1 out (g pr j) = out := by unfold st1; rw [if_pos hin]
  rw [e] at H
  rw [if_pos hin] at h7
  have h8 : ¬ (((out.idxOf (g pr j) : Nat) : Int) < 0) := by omega
  simp only [Z29.l2, h1, h2, h3, h5, h6, h7, h8, rdI, I_len', if_true, if_false]
  exact H
 ·have e : st1 out (g pr j) = out ++ [g pr j] := by unfold st1; rw [if_neg hin]
  rw [e, ← nmP_add hx hin, ← I_snoc] at H
  rw [if_neg hin] at h7
  have h8 : (-1 : Int) < 0 := by omega
  simp only [Z29.l2, h1, h2, h3, h4, h5, h6, h7, h8, rdI, I_len', if_true, Int.toNat_natCast]
  exact H
theorem names_loop {p q : List Nat} (hp : IsP p) (hq : IsP q) (hl : q.length = p.length) (h24 : p.length ≤ 24) (f : Nat) : ∀ (a : Nat) (out : List Nat), RInv p.length out → a ≤ out.length → p.length < f + a →
  Ev (fun k => Z29.l1 k (nmP p.length out) (I out) (a : Int) (I p) (I q)) (nmP p.length (bfs p q f a out)) := by
 induction f with
 | zero =>
  intro a out hr ha hf
  have := hr.le
  omega
 | succ f ih =>
  intro a out hr ha hf
  have hle := hr.le
  refine ev_succ ?_
  by_cases h : a < out.length
  ·have hx := hr.g h
   have hg1 := g_lt hp hx
   have hg2 : g q (g out a) < p.length := by have := g_lt hq (i := g out a) (by omega); omega
   have r1 := hr.st hg1
   have r2 := r1.st hg2
   have h1 : (a : Int) < (out.length : Int) := by omega
   have h2 : (0 : Int) ≤ (a : Int) := by omega
   have h3 : ((g out a : Nat) : Int) < (p.length : Int) := by omega
   have h4 : (0 : Int) ≤ ((g out a : Nat) : Int) := by omega
   have h5 : ((g out a : Nat) : Int) < (q.length : Int) := by omega
   have hb : bfs p q (f + 1) a out = bfs p q f (a + 1) (st1 (st1 out (g p (g out a))) (g q (g out a))) := by
    rw [bfs, if_pos h]
   rw [hb]
   have key := ih (a + 1) _ r2 (Nat.le_trans (by omega : a + 1 ≤ out.length) (Nat.le_trans (st1_len _ _) (st1_len _ _))) (by omega)
   have hq1 : a ≤ 9000000000000000000 := by omega
   have l1 := r1.le
   simp only [Z29.l1, h1, h2, h3, h4, h5, rdI, I_len', if_true, Option.bind_some, I_pair]
   refine names_one (q := q) a 0 (by simp) (by simp) (by omega) hg1 _ ?_
   refine names_one (q := q) a 1 (by simp) (by simp) (by simp only [g, List.getD_cons_zero] at l1 ⊢; omega) hg2 _ ?_
   refine ev_succ ?_
   have h7 : ¬ (((1 + 1 : Nat) : Int) < (([g p (g out a), g q (g out a)] : List Nat).length : Int)) := by simp
   have h6 := w64s a hq1
   simp only [Z29.l2, h7, h6, if_false]
   exact key
  ·have h1 : ¬ ((a : Int) < (out.length : Int)) := by omega
   have hb : bfs p q (f + 1) a out = out := by rw [bfs, if_neg h]
   rw [hb]
   simp only [Z29.l1, h1, I_len', if_false]
   exact Ev.now _
theorem impl_names {r u : List Nat} (hs : Sf r u) {s : Nat} (h : s < r.length) : Ev (fun k => Z29.f k (I r) (I u) (s : Int)) (I (nm r u s)) := by
 have hle := hs.le
 have h0 := surfB_I.mpr hs
 obtain ⟨k1, k2⟩ := reach_full hs h
 obtain ⟨_, k3⟩ := isP_reach hs h
 have fin := names_loop hs.pr hs.pu hs.eq hs.le (r.length + 1) 0 [s] ⟨by simp, by simpa using h⟩ (by simp) (by omega)
 have e1 : bfs r u (r.length + 1) 0 [s] = reach r u s := rfl
 rw [e1, nmP_full k3 k2] at fin
 have H : ∀ d i : Nat, i + d = r.length → Ev (fun k => Z29.l0 k (s : Int) (List.replicate i (-1) ++ List.replicate d 0) (r.length : Int) (i : Int) (I r) (I u)) (I (nm r u s)) := by
  intro d
  induction d with
  | zero =>
   intro i hi
   obtain rfl : i = r.length := by omega
   refine ev_succ ?_
   have c1 : ¬ ((r.length : Int) < (r.length : Int)) := by omega
   have c2 : (0 : Int) ≤ (s : Int) := by omega
   have c3 : (s : Int) < (((List.replicate r.length (-1) ++ List.replicate 0 0 : List Int)).length : Int) := by simp; omega
   have c4 : (List.replicate r.length (-1) ++ List.replicate 0 0 : List Int).set ((s : Int)).toNat 0 = nmP r.length [s] := by
    refine ext_rd (by rw [List.length_set, nmP_len]; simp) (fun i hi => ?_)
    rw [List.length_set] at hi
    have hi' : i < r.length := by simpa using hi
    rw [Int.toNat_natCast, rd_set (by simp; exact h), rd_nmP hi']
    by_cases e : s = i
    ·subst e
     simp
    ·rw [if_neg e]
     have : i ∉ [s] := by simp; omega
     rw [if_neg this, rd_get _ _ hi]
     simp
   simp only [Z29.l0, c1, c2, c3, c4, if_true, if_false]
   exact fin
  | succ d ih =>
   intro i hi
   refine ev_succ ?_
   have c1 : (i : Int) < (r.length : Int) := by omega
   have c2 : (0 : Int) ≤ (i : Int) := by omega
   have c3 : (i : Int) < (((List.replicate i (-1) ++ List.replicate (d + 1) 0 : List Int)).length : Int) := by simp; omega
   have c4 : (List.replicate i (-1) ++ List.replicate (d + 1) 0 : List Int).set ((i : Int)).toNat (-1) = List.replicate (i + 1) (-1) ++ List.replicate d 0 := by
    have hm := set_mid5 (List.replicate i (-1 : Int)) 0 (-1) (List.replicate d 0)
    rw [List.length_replicate] at hm
    rw [Int.toNat_natCast, List.replicate_succ, hm, List.replicate_succ', List.append_assoc]
    rfl
   have c5 := w64s i (by omega)
   simp only [Z29.l0, c1, c2, c3, c4, c5, if_true]
   exact ih (i + 1) (by omega)
 unfold Z29.f
 refine Ev.bind (impl_surf _ _) ?_
 have n1 : ¬ ((s : Int) < 0) := by omega
 have n2 : decide ((s : Int) ≥ (r.length : Int)) = false := by rw [decide_eq_false_iff_not]; omega
 simp only [h0, n1, n2, I_len', if_true, if_false]
 refine ev_succ ?_
 have z1 : (0 : Int) ≤ (r.length : Int) := by omega
 have z2 : r.length ≤ 35184372088832 := by omega
 simp only [Z29.j0, Bool.false_eq_true, I_len', z1, z2, if_true, if_false, Int.toNat_natCast, Option.bind_some, List.length_replicate]
 have := H r.length 0 (Nat.zero_add _)
 simpa using this
end Go.Proofs.Ytoijcallajegfaa.M
end
section
/- The canonical form: the program and the reference find the same one. No conditions. -/
namespace Go.Proofs.Ytoijcallajegfaa.M
set_option linter.unusedVariables false
set_option linter.unusedSimpArgs false
open Go.RowKit Go.Proofs.YtoijcallajegfaaW.PrintWords Go.Proofs.YtoijcallajegfaaW.PrintLast Go.Proofs.YtoijcallajegfaaW.PrintMore Go.Proofs.Ytoijcallajegfaa.A
def lexC : List Nat → List Nat → Int
 | [], [] => 0
 | [], _ :: _ => -1
 | _ :: _, [] => 1
 | a :: l, b :: m => if a < b then -1 else if b < a then 1 else lexC l m
theorem cmp_ev (a b : Nat) : Z23.f (a : Int) (b : Int) = some (if a < b then -1 else if b < a then 1 else 0) := by
 unfold Z23.f Z34.f
 simp only [bne_self_eq_false, Option.bind_some, Bool.false_eq_true, if_false]
 by_cases h1 : a < b
 ·have : (a : Int) < (b : Int) := by omega
  simp only [h1, this, if_true]
 ·have n1 : ¬ (a : Int) < (b : Int) := by omega
  by_cases h2 : b < a
  ·have : (a : Int) > (b : Int) := by omega
   simp only [h1, n1, h2, this, if_true, if_false]
  ·have n2 : ¬ (a : Int) > (b : Int) := by omega
   simp only [h1, n1, h2, n2, if_false]
theorem lexC_eq : ∀ (a b : List Nat), lexC a b = 0 ↔ a = b := by
 intro a
 induction a with
 | nil => intro b; cases b <;> simp [lexC]
 | cons x a ih =>
  intro b
  cases b with
  | nil => simp [lexC]
  | cons y b =>
   unfold lexC
   by_cases h1 : x < y
   ·simp [h1]; omega
   ·by_cases h2 : y < x
    ·simp [h1, h2]; omega
    ·have e : x = y := by omega
     subst e
     simp [h1, ih]
theorem compare_ev (a b : List Nat) (hl : a.length ≤ 1000000) : Ev (fun k => Z1.f k (I a) (I b)) (lexC a b) := by
 unfold Z1.f
 have H : ∀ d i : Nat, i + d = a.length → i ≤ b.length → Ev (fun k => Z1.l0 k (I a) (I b) (I a) (a.length : Int) (i : Int)) (lexC (a.drop i) (b.drop i)) := by
  intro d
  induction d with
  | zero =>
   intro i hi hb
   refine ev_succ ?_
   have c1 : ¬ ((i : Int) < (a.length : Int)) := by omega
   rw [List.drop_of_length_le (l := a) (by omega)]
   simp only [Z1.l0, c1, I_len', if_false]
   by_cases h : (a.length : Int) < (b.length : Int)
   ·have : lexC [] (b.drop i) = -1 := by
     rw [List.drop_eq_getElem_cons (by omega)]
     rfl
    simp only [h, if_true, this]
    exact Ev.now _
   ·have : lexC [] (b.drop i) = 0 := by
     rw [List.drop_of_length_le (by omega)]
     rfl
    simp only [h, if_false, this]
    exact Ev.now _
  | succ d ih =>
   intro i hi hb
   have hia : i < a.length := by omega
   rw [List.drop_eq_getElem_cons hia, ← g_get hia]
   have c1 : (i : Int) < (a.length : Int) := by omega
   have c2 : (0 : Int) ≤ (i : Int) := by omega
   have c3 := w64s i (by omega)
   refine ev_succ ?_
   by_cases h : i < b.length
   ·rw [List.drop_eq_getElem_cons h, ← g_get h]
    have n1 : ¬ ((i : Int) ≥ (b.length : Int)) := by omega
    have n2 : (i : Int) < (b.length : Int) := by omega
    simp only [Z1.l0, c1, c2, c3, n1, n2, I_len', rdI, cmp_ev, Option.bind_some, if_true, if_false]
    unfold lexC
    by_cases h1 : g a i < g b i
    ·have z : ¬ ((-1 : Int) = 0) := by omega
     simp only [h1, z, if_true, if_false]
     exact Ev.now _
    ·by_cases h2 : g b i < g a i
     ·have z : ¬ ((1 : Int) = 0) := by omega
      simp only [h1, h2, z, if_true, if_false]
      exact Ev.now _
     ·simp only [h1, h2, if_true, if_false]
      exact ih (i + 1) (by omega) (by omega)
   ·have n1 : (i : Int) ≥ (b.length : Int) := by omega
    rw [List.drop_of_length_le (l := b) (by omega)]
    simp only [Z1.l0, c1, c2, n1, I_len', if_true]
    exact Ev.now _
 have key := H a.length 0 (Nat.zero_add _) (Nat.zero_le _)
 rw [List.drop_zero, List.drop_zero] at key
 simp only [I_len']
 exact key
def cmpS (a b : List Nat × List Nat) : Int := if lexC a.1 b.1 = 0 then lexC a.2 b.2 else lexC a.1 b.1
theorem impl_cmpS (a b : List Nat × List Nat) (h1 : a.1.length ≤ 1000000) (h2 : a.2.length ≤ 1000000) : Ev (fun k => Z4.f k (I a.1) (I a.2) (I b.1) (I b.2)) (cmpS a b) := by
 unfold Z4.f cmpS
 refine Ev.bind (compare_ev a.1 b.1 h1) ?_
 by_cases h : lexC a.1 b.1 = 0
 ·simp only [h, if_true]
  exact Ev.bind (compare_ev a.2 b.2 h2) (Ev.now _)
 ·simp only [h, if_false]
  exact Ev.now _
def rS (r u : List Nat) (s : Nat) : List Nat × List Nat := rnS r u (nm r u s)
theorem rS_len {r u : List Nat} (s : Nat) : (rS r u s).1.length = r.length ∧ (rS r u s).2.length = u.length := ⟨ren_len _ _, ren_len _ _⟩
def canK (r u : List Nat) : Nat → List Nat × List Nat
 | 0 => rS r u 0
 | k + 1 => if cmpS (rS r u (k + 1)) (canK r u k) < 0 then rS r u (k + 1) else canK r u k
theorem canK_len {r u : List Nat} (k : Nat) : (canK r u k).1.length = r.length ∧ (canK r u k).2.length = u.length := by
 induction k with
 | zero => exact rS_len 0
 | succ k ih =>
  unfold canK
  split
  ·exact rS_len _
  ·exact ih
def canS (r u : List Nat) : List Nat × List Nat := canK r u (r.length - 1)
def namedL (r u : List Nat) (n : Nat) : List S33 := (List.range n).map (fun s => (⟨I (rS r u s).1, I (rS r u s).2⟩ : S33))
theorem namedL_len (r u : List Nat) (n : Nat) : (namedL r u n).length = n := by simp [namedL]
theorem rd_named {r u : List Nat} {n i : Nat} (h : i < n) : rd_T33 (namedL r u n) (i : Int) = ⟨I (rS r u i).1, I (rS r u i).2⟩ := by
 unfold rd_T33 namedL
 simp [List.getD_eq_getElem?_getD, h]
theorem count_sq {r u : List Nat} (hs : Sf r u) : Ev (fun k => Z11.f k (I r) (I u)) (r.length : Int) := by
 unfold Z11.f
 refine Ev.bind (impl_surf _ _) ?_
 have h0 := surfB_I.mpr hs
 simp only [h0, I_len', if_true]
 exact Ev.now _
theorem impl_named {r u : List Nat} (hs : Sf r u) : Ev (fun k => Z32.f k (I r) (I u)) (namedL r u r.length) := by
 have hle := hs.le
 unfold Z32.f
 have H : ∀ d i : Nat, i + d = r.length → Ev (fun k => Z32.l0 k (namedL r u i) (i : Int) (I r) (I u)) (namedL r u r.length) := by
  intro d
  induction d with
  | zero =>
   intro i hi
   obtain rfl : i = r.length := by omega
   refine ev_succ ?_
   simp only [Z32.l0]
   refine Ev.bind (count_sq hs) ?_
   have c1 : ¬ ((r.length : Int) < (r.length : Int)) := by omega
   simp only [c1, if_false]
   exact Ev.now _
  | succ d ih =>
   intro i hi
   have hil : i < r.length := by omega
   have q1 := isP_nm hs hil
   refine ev_succ ?_
   simp only [Z32.l0]
   refine Ev.bind (count_sq hs) ?_
   have c1 : (i : Int) < (r.length : Int) := by omega
   have c2 : (namedL r u i).length < 2932031007402 := by rw [namedL_len]; omega
   have c3 := w64s i (by omega)
   simp only [c1, if_true]
   refine Ev.bind (impl_names hs hil) (Ev.bind (impl_renS hs q1.1 q1.2) ?_)
   have e : namedL r u i ++ [(⟨I (rnS r u (nm r u i)).1, I (rnS r u (nm r u i)).2⟩ : S33)] = namedL r u (i + 1) := by
    unfold namedL
    rw [List.range_succ, List.map_append]
    rfl
   simp only [c2, c3, e, if_true]
   exact ih (i + 1) (by omega)
 exact H r.length 0 (Nat.zero_add _)
theorem impl_canon {r u : List Nat} (hs : Sf r u) : Ev (fun k => Z45.f k (I r) (I u)) (I (canS r u).1, I (canS r u).2, true) := by
 have hle := hs.le
 have heq := hs.eq
 have hpos := hs.pos
 unfold Z45.f
 refine Ev.bind (impl_named hs) ?_
 have c0 : ¬ ((r.length : Int) = 0) := by omega
 simp only [namedL_len, c0, if_false]
 refine Ev.bind (a := (I (canS r u).1, I (canS r u).2)) ?_ (Ev.now _)
 unfold Z25.f
 have c1 : ¬ ((r.length : Int) < 1) := by omega
 have c2 : (0 : Int) < (r.length : Int) := by omega
 have e0 : rd_T33 (namedL r u r.length) 0 = ⟨I (canK r u 0).1, I (canK r u 0).2⟩ := rd_named hpos
 simp only [namedL_len, c1, c2, e0, if_true, if_false]
 have H : ∀ d i : Nat, i + 1 + d = r.length → Ev (fun k => Z25.l0 k (namedL r u r.length) ((i + 1 : Nat) : Int) (I (canK r u i).1) (I (canK r u i).2)) (I (canS r u).1, I (canS r u).2) := by
  intro d
  induction d with
  | zero =>
   intro i hi
   refine ev_succ ?_
   have c1 : ¬ (((i + 1 : Nat) : Int) < (r.length : Int)) := by omega
   have e : canS r u = canK r u i := by
    unfold canS
    congr 1
    omega
   rw [e]
   simp only [Z25.l0, c1, namedL_len, if_false]
   exact Ev.now _
  | succ d ih =>
   intro i hi
   have hi1 : i + 1 < r.length := by omega
   have c1 : ((i + 1 : Nat) : Int) < (r.length : Int) := by omega
   have c2 : (0 : Int) ≤ ((i + 1 : Nat) : Int) := by omega
   have c4 : rd_T33 (namedL r u r.length) ((i + 1 : Nat) : Int) = ⟨I (rS r u (i + 1)).1, I (rS r u (i + 1)).2⟩ := rd_named hi1
   have c3 := w64s (i + 1) (by omega)
   have lr := rS_len (r := r) (u := u) (i + 1)
   refine ev_succ ?_
   simp only [Z25.l0, c1, c2, c3, c4, namedL_len, if_true]
   refine Ev.bind (impl_cmpS (rS r u (i + 1)) (canK r u i) (by rw [lr.1]; omega) (by rw [lr.2]; omega)) ?_
   have key := ih (i + 1) (by omega)
   unfold canK at key
   by_cases h : cmpS (rS r u (i + 1)) (canK r u i) < 0
   ·rw [if_pos h] at key
    simp only [h, if_true]
    exact key
   ·rw [if_neg h] at key
    simp only [h, if_false]
    exact key
 exact H (r.length - 1) 0 (by omega)
theorem equal_ev (a b : List Nat) (h : a.length ≤ 1000000000) : Ev (fun k => Z38.f k (I a) (I b)) (decide (a = b)) := by
 unfold Z38.f Z5.f
 refine Ev.bind (a := decide (a = b)) ?_ (Ev.now _)
 by_cases hl : (a.length : Int) = (b.length : Int)
 ·have hl' : a.length = b.length := by omega
  simp only [I_len', hl, if_true]
  have H : ∀ d i : Nat, i + d = a.length → Ev (fun k => Z5.l0 k (I a) (I b) (b.length : Int) (i : Int)) (decide (a.drop i = b.drop i)) := by
   intro d
   induction d with
   | zero =>
    intro i hi
    refine ev_succ ?_
    have c1 : ¬ ((i : Int) < (b.length : Int)) := by omega
    have e : decide (a.drop i = b.drop i) = true := by rw [List.drop_of_length_le (by omega), List.drop_of_length_le (by omega)]; simp
    simp only [Z5.l0, c1, if_false, e]
    exact Ev.now _
   | succ d ih =>
    intro i hi
    have hia : i < a.length := by omega
    have hib : i < b.length := by omega
    rw [List.drop_eq_getElem_cons hia, ← g_get hia, List.drop_eq_getElem_cons hib, ← g_get hib]
    have c1 : (i : Int) < (b.length : Int) := by omega
    have c2 : (0 : Int) ≤ (i : Int) := by omega
    have c4 : (i : Int) < (a.length : Int) := by omega
    have c3 := w64s i (by omega)
    refine ev_succ ?_
    by_cases he : g a i = g b i
    ·have z : ((g a i : Nat) : Int) = ((g b i : Nat) : Int) := by omega
     have e : decide (g a i :: a.drop (i + 1) = g b i :: b.drop (i + 1)) = decide (a.drop (i + 1) = b.drop (i + 1)) := by simp [he]
     rw [e]
     simp only [Z5.l0, c1, c2, c3, c4, I_len', rdI, z, if_true]
     exact ih (i + 1) (by omega)
    ·have z : ¬ (((g a i : Nat) : Int) = ((g b i : Nat) : Int)) := by omega
     have e : decide (g a i :: a.drop (i + 1) = g b i :: b.drop (i + 1)) = false := by simp [he]
     rw [e]
     simp only [Z5.l0, c1, c2, c4, I_len', rdI, z, if_true, if_false]
     exact Ev.now _
  have key := H a.length 0 (Nat.zero_add _)
  rw [List.drop_zero, List.drop_zero] at key
  exact key
 ·have e : decide (a = b) = false := by
   rw [decide_eq_false_iff_not]
   intro e
   rw [e] at hl
   exact hl rfl
  simp only [I_len', hl, if_false, e]
  exact Ev.now _
end Go.Proofs.Ytoijcallajegfaa.M
end
section
/- The order of surfaces. No conditions. -/
namespace Go.Proofs.Ytoijcallajegfaa.M
set_option linter.unusedVariables false
set_option linter.unusedSimpArgs false
open Go.RowKit Go.Proofs.YtoijcallajegfaaW.PrintWords Go.Proofs.YtoijcallajegfaaW.PrintLast Go.Proofs.YtoijcallajegfaaW.PrintMore Go.Proofs.Ytoijcallajegfaa.A
theorem lexC_neg : ∀ (a b : List Nat), lexC b a = - lexC a b := by
 intro a
 induction a with
 | nil => intro b; cases b <;> simp [lexC]
 | cons x a ih =>
  intro b
  cases b with
  | nil => simp [lexC]
  | cons y b =>
   unfold lexC
   by_cases h1 : x < y
   ·have h2 : ¬ y < x := by omega
    simp [h1, h2]
   ·by_cases h2 : y < x
    ·simp [h1, h2]
    ·simp [h1, h2, ih]
theorem lexC_tr : ∀ (a b c : List Nat), lexC a b < 0 → lexC b c < 0 → lexC a c < 0 := by
 intro a
 induction a with
 | nil =>
  intro b c h1 h2
  cases c with
  | nil => cases b <;> simp [lexC] at h1 h2
  | cons z c => simp [lexC]
 | cons x a ih =>
  intro b c h1 h2
  cases b with
  | nil => simp [lexC] at h1
  | cons y b =>
   cases c with
   | nil => simp [lexC] at h2
   | cons z c =>
    unfold lexC at h1 h2 ⊢
    by_cases p1 : x < y
    ·by_cases p2 : y < z
     ·have : x < z := by omega
      simp [this]
     ·by_cases p3 : z < y
      ·simp [p2, p3] at h2
      ·have : x < z := by omega
       simp [this]
    ·by_cases q1 : y < x
     ·simp [p1, q1] at h1
     ·have e : x = y := by omega
      subst e
      by_cases p2 : x < z
      ·simp [p2]
      ·by_cases p3 : z < x
       ·simp [p2, p3] at h2
       ·simp only [p2, p3, if_false] at h2 ⊢
        simp only [p1, q1, if_false] at h1
        exact ih b c h1 h2
theorem cmpS_eq (a b : List Nat × List Nat) : cmpS a b = 0 ↔ a = b := by
 unfold cmpS
 by_cases h : lexC a.1 b.1 = 0
 ·rw [if_pos h]
  have e := (lexC_eq _ _).1 h
  constructor
  ·intro h2
   exact Prod.ext e ((lexC_eq _ _).1 h2)
  ·intro h2
   rw [h2]
   exact (lexC_eq _ _).2 rfl
 ·rw [if_neg h]
  constructor
  ·intro h2; exact absurd h2 h
  ·intro h2
   rw [h2] at h
   exact absurd ((lexC_eq _ _).2 rfl) h
theorem cmpS_neg (a b : List Nat × List Nat) : cmpS b a = - cmpS a b := by
 unfold cmpS
 have h1 := lexC_neg a.1 b.1
 have h2 := lexC_neg a.2 b.2
 by_cases h : lexC a.1 b.1 = 0
 ·have h' : lexC b.1 a.1 = 0 := by omega
  rw [if_pos h, if_pos h', h2]
 ·have h' : ¬ lexC b.1 a.1 = 0 := by omega
  rw [if_neg h, if_neg h', h1]
theorem cmpS_tr (a b c : List Nat × List Nat) (h1 : cmpS a b < 0) (h2 : cmpS b c < 0) : cmpS a c < 0 := by
 unfold cmpS at *
 by_cases p : lexC a.1 b.1 = 0
 ·rw [if_pos p] at h1
  have e := (lexC_eq _ _).1 p
  rw [e]
  by_cases q : lexC b.1 c.1 = 0
  ·rw [if_pos q] at h2 ⊢
   exact lexC_tr _ _ _ h1 h2
  ·rw [if_neg q] at h2 ⊢
   exact h2
 ·rw [if_neg p] at h1
  by_cases q : lexC b.1 c.1 = 0
  ·rw [if_pos q] at h2
   have e := (lexC_eq _ _).1 q
   rw [← e, if_neg p]
   exact h1
  ·rw [if_neg q] at h2
   have := lexC_tr _ _ _ h1 h2
   rw [if_neg (by omega)]
   exact this
end Go.Proofs.Ytoijcallajegfaa.M
end
section
/- The canonical form tells which surfaces are alike. No conditions. -/
namespace Go.Proofs.Ytoijcallajegfaa.M
set_option linter.unusedVariables false
set_option linter.unusedSimpArgs false
theorem bfs_g0 {p q : List Nat} : ∀ (F a : Nat) (out : List Nat), 0 < out.length → g (bfs p q F a out) 0 = g out 0 := by
 intro F
 induction F with
 | zero => intro a out _; rfl
 | succ F ih =>
  intro a out h
  unfold bfs
  split
  ·have l1 := st1_le out (g p (g out a))
   have l2 := st1_le (st1 out (g p (g out a))) (g q (g out a))
   rw [ih _ _ (by omega), st1_g (by omega), st1_g h]
  ·rfl
theorem reach_g0 (p q : List Nat) (i : Nat) : g (reach p q i) 0 = i := bfs_g0 _ _ [i] (by simp)
theorem nm_self {r u : List Nat} (hs : Sf r u) {i : Nat} (hi : i < r.length) : g (nm r u i) i = 0 := by
 obtain ⟨h1, h2⟩ := isP_reach hs hi
 unfold nm
 rw [g_inv (by rw [h2]; exact hi)]
 exact ix_eq h1 (by rw [h2]; exact hs.pos) (reach_g0 r u i)
theorem rS_is {s t : List Nat × List Nat} {f : Nat → Nat} (hs : Sf s.1 s.2) (ht : Sf t.1 t.2) (a : Is s t f) {i : Nat} (hi : i < s.1.length) : rS t.1 t.2 (f i) = rS s.1 s.2 i := by
 have hfi : f i < t.1.length := by rw [a.len]; exact a.lt i hi
 obtain ⟨p1, l1⟩ := isP_reach hs hi
 obtain ⟨p2, l2⟩ := isP_reach ht hfi
 have em := reach_map hs a hi
 have hle : ∀ y ∈ reach s.1 s.2 i, y < s.1.length := fun y hy => by rw [← l1]; exact p1.lt y hy
 have key : ∀ (p q : List Nat), (∀ x, x < s.1.length → g p x < s.1.length) → (∀ x, x < s.1.length → f (g p x) = g q (f x)) → p.length = s.1.length → q.length = t.1.length → ren q (nm t.1 t.2 (f i)) = ren p (nm s.1 s.2 i) := by
  intro p q hp hq lp lq
  refine ext_g (by rw [ren_len, ren_len, lp, lq, a.len]) (fun j hj => ?_)
  rw [ren_len, lq] at hj
  have hj' : j < s.1.length := by rw [← a.len]; exact hj
  rw [g_ren (by rw [lq]; exact hj), g_ren (by rw [lp]; exact hj')]
  unfold nm
  rw [ix_inv p2 (by rw [l2]; exact hj), ix_inv p1 (by rw [l1]; exact hj'), em, g_map (by rw [l1]; exact hj')]
  have hz : g (reach s.1 s.2 i) j < s.1.length := hle _ (g_mem (by rw [l1]; exact hj'))
  rw [← hq _ hz, ← em, g_inv (by rw [l2, a.len]; exact a.lt _ (hp _ hz)), g_inv (by rw [l1]; exact hp _ hz), em]
  exact ix_map a.inj hle (hp _ hz)
 exact Prod.ext (key s.1 t.1 (fun x hx => hs.gr hx) a.r rfl rfl) (key s.2 t.2 (fun x hx => hs.gu hx) a.u hs.eq ht.eq)
theorem is_rS {s : List Nat × List Nat} (hs : Sf s.1 s.2) {i : Nat} (hi : i < s.1.length) : Is s (rS s.1 s.2 i) (g (nm s.1 s.2 i)) := by
 obtain ⟨p, l⟩ := isP_nm hs hi
 refine ⟨(rS_len i).1, fun x hx => ?_, fun x y hx hy e => g_inj p (by rw [l]; exact hx) (by rw [l]; exact hy) e, fun x hx => ?_, fun x hx => ?_⟩
 ·have := g_lt p (i := x) (by rw [l]; exact hx)
  rw [l] at this
  exact this
 ·have h1 := g_lt p (i := x) (by rw [l]; exact hx)
  rw [l] at h1
  show _ = g (ren s.1 (nm s.1 s.2 i)) _
  rw [g_ren h1, ix_g p (by rw [l]; exact hx)]
 ·have h1 := g_lt p (i := x) (by rw [l]; exact hx)
  rw [l] at h1
  show _ = g (ren s.2 (nm s.1 s.2 i)) _
  rw [g_ren (by rw [hs.eq]; exact h1), ix_g p (by rw [l]; exact hx)]
theorem canK_at (r u : List Nat) : ∀ k, ∃ i, i ≤ k ∧ canK r u k = rS r u i := by
 intro k
 induction k with
 | zero => exact ⟨0, Nat.le_refl _, rfl⟩
 | succ k ih =>
  obtain ⟨i, hi, e⟩ := ih
  unfold canK
  split
  ·exact ⟨k + 1, Nat.le_refl _, rfl⟩
  ·exact ⟨i, by omega, e⟩
theorem canK_le (r u : List Nat) : ∀ k i, i ≤ k → ¬ cmpS (rS r u i) (canK r u k) < 0 := by
 intro k
 induction k with
 | zero =>
  intro i hi
  obtain rfl : i = 0 := by omega
  show ¬ cmpS (rS r u 0) (rS r u 0) < 0
  rw [(cmpS_eq _ _).2 rfl]; omega
 | succ k ih =>
  intro i hi
  unfold canK
  by_cases h : cmpS (rS r u (k + 1)) (canK r u k) < 0
  ·rw [if_pos h]
   by_cases e : i = k + 1
   ·subst e
    rw [(cmpS_eq _ _).2 rfl]; omega
   ·intro h2
    exact ih i (by omega) (cmpS_tr _ _ _ h2 h)
  ·rw [if_neg h]
   by_cases e : i = k + 1
   ·subst e; exact h
   ·exact ih i (by omega)
theorem canS_at {r u : List Nat} (hs : Sf r u) : ∃ i, i < r.length ∧ canS r u = rS r u i := by
 obtain ⟨i, hi, e⟩ := canK_at r u (r.length - 1)
 have := hs.pos
 exact ⟨i, by omega, e⟩
theorem canS_le {r u : List Nat} {i : Nat} (hi : i < r.length) : ¬ cmpS (rS r u i) (canS r u) < 0 := canK_le r u _ i (by omega)
theorem is_canS {s : List Nat × List Nat} (hs : Sf s.1 s.2) : ∃ f, Is s (canS s.1 s.2) f := by
 obtain ⟨i, hi, e⟩ := canS_at hs
 rw [e]
 exact ⟨_, is_rS hs hi⟩
theorem canS_of_is {s t : List Nat × List Nat} {f : Nat → Nat} (hs : Sf s.1 s.2) (ht : Sf t.1 t.2) (a : Is s t f) : canS s.1 s.2 = canS t.1 t.2 := by
 obtain ⟨i, hi, e1⟩ := canS_at hs
 obtain ⟨j, hj, e2⟩ := canS_at ht
 have a' := a.symm hs
 rw [a.len] at hj
 have hb := bk_lt a.lt a.inj hj
 have q1 := canS_le (r := t.1) (u := t.2) (i := f i) (by rw [a.len]; exact a.lt i hi)
 have q2 := canS_le (r := s.1) (u := s.2) (i := bk s.1.length f j) hb
 rw [rS_is hs ht a hi, ← e1] at q1
 rw [rS_is ht hs a' (by rw [a.len]; exact hj), ← e2] at q2
 have := cmpS_neg (canS s.1 s.2) (canS t.1 t.2)
 exact (cmpS_eq _ _).1 (by omega)
theorem canS_iff {s t : List Nat × List Nat} (hs : Sf s.1 s.2) (ht : Sf t.1 t.2) : canS s.1 s.2 = canS t.1 t.2 ↔ ∃ f, Is s t f := by
 constructor
 ·intro h
  obtain ⟨f1, h1⟩ := is_canS hs
  obtain ⟨f2, h2⟩ := is_canS ht
  rw [h] at h1
  exact ⟨_, h1.trans (h2.symm ht)⟩
 ·rintro ⟨f, h⟩
  exact canS_of_is hs ht h
theorem rS_same {s : List Nat × List Nat} (hs : Sf s.1 s.2) {i j : Nat} (hi : i < s.1.length) (hj : j < s.1.length) : rS s.1 s.2 i = rS s.1 s.2 j ↔ ∃ f, Is s s f ∧ f i = j := by
 constructor
 ·intro h
  have h1 := is_rS hs hi
  have h2 := is_rS hs hj
  rw [h] at h1
  have h3 := h1.trans (h2.symm hs)
  refine ⟨_, h3, ?_⟩
  show bk s.1.length (g (nm s.1 s.2 j)) (g (nm s.1 s.2 i) i) = j
  rw [nm_self hs hi, ← nm_self hs hj]
  exact bk_f h2.lt h2.inj hj
 ·rintro ⟨f, a, rfl⟩
  exact (rS_is hs hs a hi).symm
end Go.Proofs.Ytoijcallajegfaa.M
end
section
/- Cycles: the program and the reference answer alike. No conditions. -/
namespace Go.Proofs.Ytoijcallajegfaa.M
set_option linter.unusedVariables false
set_option linter.unusedSimpArgs false
open Go.RowKit Go.Proofs.YtoijcallajegfaaW.PrintWords Go.Proofs.YtoijcallajegfaaW.PrintLast Go.Proofs.YtoijcallajegfaaW.PrintMore Go.Proofs.Ytoijcallajegfaa.A
def I2 (l : List (List Nat)) : List (List Int) := l.map I
theorem I2_len (l : List (List Nat)) : (I2 l).length = l.length := by simp [I2]
theorem I2_snoc (l : List (List Nat)) (c : List Nat) : I2 l ++ [I c] = I2 (l ++ [c]) := by simp [I2]
theorem cyc_len (p : List Nat) (i : Nat) : (cyc p i).length ≤ i := by
 induction i with
 | zero => simp [cyc]
 | succ i ih =>
  unfold cyc
  split
  ·omega
  ·simp
   omega
theorem orbTo_len (p : List Nat) (s m : Nat) : (orbTo p s m).length = m := by simp [orbTo]
theorem mem_flat {l : List (List Nat)} {x : Nat} : x ∈ l.flatten ↔ ∃ c ∈ l, x ∈ c := by simp
theorem cyc_next {p : List Nat} (hp : IsP p) {i m : Nat} (hi : i < p.length) (hnew : ¬ ∃ c ∈ cyc p i, i ∈ c) (hm : m < per p i) : itr p m i ∉ (cyc p i).flatten ++ orbTo p i m := by
 intro h
 rcases List.mem_append.mp h with h | h
 ·exact cyc_new hp hi hnew ((mem_orb hp hi).mpr ⟨m, rfl⟩) (mem_flat.mp h)
 ·by_cases e : m = 0
  ·subst e
   simp [orbTo] at h
  ·exact orb_close hp hi hm (by omega) h
theorem cyc_shut {p : List Nat} (hp : IsP p) {i : Nat} (hi : i < p.length) : itr p (per p i) i ∈ (cyc p i).flatten ++ orbTo p i (per p i) := by
 rw [(per_spec hp hi).1]
 exact List.mem_append.mpr (.inr (orb_self hp hi))
theorem cyc_succ_new {p : List Nat} {i : Nat} (hnew : ¬ ∃ c ∈ cyc p i, i ∈ c) : cyc p (i + 1) = cyc p i ++ [orb p i] := by
 rw [cyc, if_neg hnew]
theorem cyc_succ_old {p : List Nat} {i : Nat} (h : ∃ c ∈ cyc p i, i ∈ c) : cyc p (i + 1) = cyc p i := by
 rw [cyc, if_pos h]
theorem marks_rep (n : Nat) : Marks n (List.replicate n false) ([] : List Nat) := by
 refine ⟨by simp, fun x hx => ?_⟩
 rw [List.getD_eq_getElem?_getD, List.getElem?_replicate]
 simp [hx]
theorem impl_cycles {p : List Nat} (hp : IsP p) (h24 : p.length ≤ 24) : Ev (fun k => Z37.f k (I p)) (I2 (cycles p)) := by
 unfold Z37.f
 refine Ev.bind (impl_permOk (I p)) ?_
 have h0 : permB (I p) = true := permB_I.mpr ⟨hp, h24⟩
 have h1 : (0 : Int) ≤ (p.length : Int) := by omega
 have h2 : p.length ≤ 281474976710656 := by omega
 simp only [h0, I_len', h1, h2, if_true, Int.toNat_natCast]
 have H : ∀ (d i : Nat) (s : List Bool), i + d = p.length → Marks p.length s (cyc p i).flatten → Ev (fun k => Z37.l0 k (I p) s (I2 (cyc p i)) (p.length : Int) (i : Int)) (I2 (cycles p)) := by
  intro d
  induction d with
  | zero =>
   intro i s h hm
   obtain rfl : i = p.length := by omega
   refine ev_succ ?_
   have h1 : ¬ ((p.length : Int) < (p.length : Int)) := by omega
   simp only [Z37.l0, h1, if_false]
   exact Ev.now _
  | succ d ih =>
   intro i s h hm
   have hi : i < p.length := by omega
   have c1 : (i : Int) < (p.length : Int) := by omega
   have c2 : (0 : Int) ≤ (i : Int) := by omega
   have c3 : (i : Int) < (s.length : Int) := by have := hm.1; omega
   have h3 := w64s i (by omega)
   refine ev_succ ?_
   by_cases hs : s.getD i false = true
   ·have ho := mem_flat.mp ((hm.2 i hi).mp hs)
    simp only [Z37.l0, c1, c2, c3, rdOf_nat, hs, if_true, h3]
    have := ih (i + 1) s (by omega) (by rw [cyc_succ_old ho]; exact hm)
    rw [cyc_succ_old ho] at this
    exact this
   ·have hnew : ¬ ∃ c ∈ cyc p i, i ∈ c := fun h => hs ((hm.2 i hi).mpr (mem_flat.mpr h))
    simp only [Z37.l0, c1, c2, c3, rdOf_nat, hs, if_true, if_false]
    have G : ∀ (e m : Nat) (t : List Bool), m + e = per p i → Marks p.length t ((cyc p i).flatten ++ orbTo p i m) → Ev (fun k => Z37.l1 k (I p) t (I2 (cyc p i)) (I (orbTo p i m)) ((itr p m i : Nat) : Int) (p.length : Int) (i : Int)) (I2 (cycles p)) := by
     intro e
     induction e with
     | zero =>
      intro m t he ht
      obtain rfl : m = per p i := by omega
      refine ev_succ ?_
      have hx := itr_lt hp (per p i) hi
      have d1 : (0 : Int) ≤ ((itr p (per p i) i : Nat) : Int) := by omega
      have d2 : ((itr p (per p i) i : Nat) : Int) < (t.length : Int) := by have := ht.1; omega
      have d3 := (ht.2 _ hx).mpr (cyc_shut hp hi)
      have d4 : (I2 (cyc p i)).length < 5864062014805 := by rw [I2_len]; have := cyc_len p i; omega
      simp only [Z37.l1, d1, d2, rdOf_nat, d3, d4, if_true, h3]
      have := ih (i + 1) t (by omega) (by rw [cyc_succ_new hnew]; simpa [orb] using ht)
      rw [cyc_succ_new hnew, ← I2_snoc] at this
      exact this
     | succ e ihe =>
      intro m t he ht
      refine ev_succ ?_
      have hx := itr_lt hp m hi
      have hn := cyc_next hp hi hnew (m := m) (by omega)
      have d1 : (0 : Int) ≤ ((itr p m i : Nat) : Int) := by omega
      have d2 : ((itr p m i : Nat) : Int) < (t.length : Int) := by have := ht.1; omega
      have d3 : ¬ t.getD (itr p m i) false = true := fun k => hn ((ht.2 _ hx).mp k)
      have d4 : (I (orbTo p i m)).length < 17592186044416 := by rw [I_len, orbTo_len]; have := (per_spec hp hi).2.1; omega
      have d5 : ((itr p m i : Nat) : Int) < (p.length : Int) := by omega
      simp only [Z37.l1, d1, d2, rdOf_nat, d3, d4, d5, I_len', if_true, if_false, rdI, Int.toNat_natCast, I_snoc, orbTo_snoc]
      have := ihe (m + 1) (t.set (itr p m i) true) (by omega) (by
       have := ht.add hx
       rw [List.append_assoc, orbTo_snoc] at this
       exact this)
      exact this
    have := G (per p i) 0 s (by omega) (by simpa [orbTo] using hm)
    exact this
 exact H p.length 0 _ (by omega) (by simpa [cyc] using marks_rep p.length)
end Go.Proofs.Ytoijcallajegfaa.M
end
section
/- Marks on lists of lists. No conditions. -/
namespace Go.Proofs.Ytoijcallajegfaa.M
set_option linter.unusedVariables false
set_option linter.unusedSimpArgs false
open Go.RowKit Go.Proofs.YtoijcallajegfaaW.PrintWords Go.Proofs.YtoijcallajegfaaW.PrintLast Go.Proofs.YtoijcallajegfaaW.PrintMore Go.Proofs.Ytoijcallajegfaa.A
def totL (xs : List (List Int)) : Nat := (xs.map List.length).sum
theorem getD_mid {α : Type} (p : List α) (x : α) (xs : List α) (d : α) : (p ++ x :: xs).getD p.length d = x := by
 rw [List.getD_eq_getElem?_getD, List.getElem?_append_right (Nat.le_refl _)]
 simp
end Go.Proofs.Ytoijcallajegfaa.M
end
section
/- Rows: the program and the reference answer alike. No conditions. -/
namespace Go.Proofs.Ytoijcallajegfaa.M
set_option linter.unusedVariables false
set_option linter.unusedSimpArgs false
open Go.RowKit Go.Proofs.YtoijcallajegfaaW.PrintWords Go.Proofs.YtoijcallajegfaaW.PrintLast Go.Proofs.YtoijcallajegfaaW.PrintMore Go.Proofs.Ytoijcallajegfaa.A
theorem cyc_flat_lt {p : List Nat} (hp : IsP p) : ∀ i, i ≤ p.length → (∀ x ∈ (cyc p i).flatten, x < p.length) ∧ (cyc p i).flatten.Nodup := by
 intro i
 induction i with
 | zero => intro _; simp [cyc]
 | succ i ih =>
  intro hi
  obtain ⟨h1, h2⟩ := ih (by omega)
  by_cases h : ∃ c ∈ cyc p i, i ∈ c
  ·rw [cyc_succ_old h]
   exact ⟨h1, h2⟩
  ·rw [cyc_succ_new h]
   simp only [List.flatten_append, List.flatten_cons, List.flatten_nil, List.append_nil]
   have hi' : i < p.length := by omega
   have ho : (orb p i).Nodup := by
    unfold orb orbTo
    refine List.pairwise_map.mpr ?_
    refine List.pairwise_iff_getElem.mpr ?_
    intro a b ha hb hab
    rw [List.length_range] at ha hb
    rw [List.getElem_range, List.getElem_range]
    intro e
    have hb0 : b < per p i := hb
    exact orb_close hp hi' hb0 (by omega) (mem_orbTo.mpr ⟨a, hab, e⟩)
   refine ⟨fun x hx => ?_, List.nodup_append.mpr ⟨h2, ho, fun a ha b hb e => ?_⟩⟩
   ·rcases List.mem_append.mp hx with hx | hx
    ·exact h1 x hx
    ·exact orb_lt hp hi' hx
   ·subst e
    exact cyc_new hp hi' h hb (mem_flat.mp ha)
theorem cycles_len {p : List Nat} (h24 : p.length ≤ 24) : (cycles p).length ≤ 24 := Nat.le_trans (cyc_len p p.length) h24
theorem cycle_len {p : List Nat} (hp : IsP p) (h24 : p.length ≤ 24) : ∀ c ∈ cycles p, c.length ≤ 24 := by
 intro c hc
 obtain ⟨s, hs, rfl⟩ := cyc_form p p.length c hc
 unfold orb
 rw [orbTo_len]
 have := (per_spec hp hs).2.1
 omega
structure SmallSS (l : List (List Int)) : Prop where
 n : l.length ≤ 24
 m : ∀ x ∈ l, x.length ≤ 24
 t : totL l ≤ 1000
end Go.Proofs.Ytoijcallajegfaa.M
end
section
/- One round about a corner; first places in lists. No conditions. -/
namespace Go.Proofs.Ytoijcallajegfaa.M
set_option linter.unusedVariables false
set_option linter.unusedSimpArgs false
open Go.RowKit Go.Proofs.YtoijcallajegfaaW.PrintWords Go.Proofs.YtoijcallajegfaaW.PrintLast Go.Proofs.YtoijcallajegfaaW.PrintMore Go.Proofs.Ytoijcallajegfaa.A
theorem impl_then {p q : List Nat} (hp : IsP p) (hq : IsP q) (hl : p.length = q.length) (h24 : p.length ≤ 24) : Ev (fun k => Z39.f k (I p) (I q)) (I (thn p q)) := by
 unfold Z39.f
 refine Ev.bind (impl_permOk (I p)) ?_
 have e1 : permB (I p) = true := permB_I.mpr ⟨hp, h24⟩
 have e2 : permB (I q) = true := permB_I.mpr ⟨hq, by omega⟩
 simp only [e1, if_true]
 refine Ev.bind (impl_permOk (I q)) ?_
 have e3 : ((p.length : Int) != (q.length : Int)) = false := by simp [hl]
 simp only [e2, if_true, I_len', e3]
 refine ev_succ ?_
 have h1 : (0 : Int) ≤ (p.length : Int) := by omega
 have h2 : p.length ≤ 35184372088832 := by omega
 simp only [Z39.j0, Bool.false_eq_true, if_false, I_len', h1, h2, if_true, Int.toNat_natCast]
 have H : ∀ (d i : Nat) (c : List Nat), i + d = p.length → c.length = p.length → (∀ j, j < i → g c j = g q (g p j)) → Ev (fun k => Z39.l0 k (I q) (I c) (I p) (p.length : Int) (i : Int)) (I (thn p q)) := by
  intro d
  induction d with
  | zero =>
   intro i c h hc hx
   refine ev_succ ?_
   have h1 : ¬ ((i : Int) < (p.length : Int)) := by omega
   have e : thn p q = c := by
    refine (eq_tab hc (fun j hj => hx j (by omega))).symm
   simp only [Z39.l0, h1, if_false]
   rw [e]
   exact Ev.now _
  | succ d ih =>
   intro i c h hc hx
   refine ev_succ ?_
   have hi : i < p.length := by omega
   have gp := g_lt hp hi
   have c1 : (i : Int) < (p.length : Int) := by omega
   have c2 : (0 : Int) ≤ (i : Int) := by omega
   have c3 : (0 : Int) ≤ ((g p i : Nat) : Int) := by omega
   have c4 : ((g p i : Nat) : Int) < (q.length : Int) := by omega
   have c5 : (i : Int) < (c.length : Int) := by omega
   have h3 := w64s i (by omega)
   simp only [Z39.l0, c1, c2, c3, c4, c5, h3, rdI, I_len', I_set, if_true, Int.toNat_natCast]
   refine ih (i + 1) _ (by omega) (by rw [List.length_set]; exact hc) (fun j hj => ?_)
   rw [g_set (by omega)]
   by_cases e : i = j
   ·subst e
    simp
   ·rw [if_neg e]
    exact hx j (by omega)
 have := H p.length 0 (List.replicate p.length 0) (by omega) (by simp) (fun j hj => by omega)
 rw [I_rep] at this
 exact this
def arnd (r u : List Nat) : List Nat := thn (thn r u) (thn (inv r) (inv u))
theorem arnd_len (r u : List Nat) : (arnd r u).length = r.length := by unfold arnd; rw [thn_len, thn_len]
theorem isP_arnd {r u : List Nat} (hs : Sf r u) : IsP (arnd r u) :=
 isP_thn (isP_thn hs.pr hs.pu hs.eq.symm) (isP_thn (isP_inv hs.pr) (isP_inv hs.pu) (by rw [inv_len, inv_len, hs.eq])) (by rw [thn_len, thn_len, inv_len])
theorem g_arnd {r u : List Nat} (hs : Sf r u) {x : Nat} (hx : x < r.length) : g (arnd r u) x = ix u (ix r (g u (g r x))) := by
 have h1 := g_lt hs.pr hx
 have h2 := g_lt hs.pu (i := g r x) (by rw [hs.eq]; exact h1)
 have h2' : g u (g r x) < r.length := by rw [← hs.eq]; exact h2
 have h3 := ix_lt hs.pr h2'
 unfold arnd
 rw [g_thn (by rw [thn_len]; exact hx), g_thn hx, g_thn (by rw [inv_len]; exact h2'), g_inv h2', g_inv (by rw [hs.eq]; exact h3)]
theorem impl_around {r u : List Nat} (hs : Sf r u) : Ev (fun k => Z36.f k (I r) (I u)) (I (arnd r u)) := by
 have hle := hs.le
 have heq := hs.eq
 unfold Z36.f
 refine Ev.bind (impl_surf _ _) ?_
 rw [surfB_I.mpr hs]
 simp only [if_true]
 refine Ev.bind (impl_then hs.pr hs.pu heq.symm hs.le) ?_
 refine Ev.bind (impl_inv hs.pr hs.le) (Ev.bind (impl_inv hs.pu (by omega)) ?_)
 refine Ev.bind (impl_then (isP_inv hs.pr) (isP_inv hs.pu) (by rw [inv_len, inv_len, heq]) (by rw [inv_len]; omega)) ?_
 refine Ev.bind (impl_then (isP_thn hs.pr hs.pu heq.symm) (isP_thn (isP_inv hs.pr) (isP_inv hs.pu) (by rw [inv_len, inv_len, heq])) (by rw [thn_len, thn_len, inv_len]) (by rw [thn_len]; omega)) ?_
 exact Ev.now _
theorem rdL_I2 (l : List (List Nat)) (i : Nat) (h : i < l.length) : rd_L5 (I2 l) (i : Int) = I (l[i]) := by
 unfold rd_L5 I2
 rw [Int.toNat_natCast, List.getD_eq_getElem?_getD, List.getElem?_map, List.getElem?_eq_getElem h]
 rfl
theorem cyc_least {p : List Nat} (hp : IsP p) : ∀ i, i ≤ p.length → ∀ c ∈ cyc p i, ∃ s, s < i ∧ c = orb p s ∧ ∀ y ∈ c, s ≤ y := by
 intro i
 induction i with
 | zero => intro _ c h; simp [cyc] at h
 | succ i ih =>
  intro hi c hc
  by_cases h : ∃ c ∈ cyc p i, i ∈ c
  ·rw [cyc_succ_old h] at hc
   obtain ⟨s, h1, h2, h3⟩ := ih (by omega) c hc
   exact ⟨s, by omega, h2, h3⟩
  ·rw [cyc_succ_new h] at hc
   rcases List.mem_append.mp hc with hc | hc
   ·obtain ⟨s, h1, h2, h3⟩ := ih (by omega) c hc
    exact ⟨s, by omega, h2, h3⟩
   ·have e : c = orb p i := by simpa using hc
    subst e
    refine ⟨i, by omega, rfl, fun y hy => ?_⟩
    apply Classical.byContradiction
    intro hlt
    obtain ⟨c', hc', hm⟩ := cyc_all hp i (by omega) y (by omega)
    exact cyc_new hp (by omega) h hy ⟨c', hc', hm⟩
theorem orb_cons (p : List Nat) (s : Nat) : ∃ t, orb p s = s :: t := by
 have h := per_pos p s
 unfold orb orbTo
 obtain ⟨m, hm⟩ : ∃ m, per p s = m + 1 := ⟨per p s - 1, by omega⟩
 rw [hm, List.range_succ_eq_map]
 exact ⟨_, rfl⟩
theorem cycle_form {p : List Nat} (hp : IsP p) {c : List Nat} (hc : c ∈ cycles p) : ∃ s t, s < p.length ∧ c = s :: t ∧ c = orb p s ∧ ∀ y ∈ c, s ≤ y := by
 obtain ⟨s, h1, h2, h3⟩ := cyc_least hp p.length (Nat.le_refl _) c hc
 obtain ⟨t, ht⟩ := orb_cons p s
 exact ⟨s, t, h1, by rw [h2, ht], h2, h3⟩
end Go.Proofs.Ytoijcallajegfaa.M
end
section
/- Slopes and paths: the program and the reference answer alike. No conditions. -/
namespace Go.Proofs.Ytoijcallajegfaa.M
set_option linter.unusedVariables false
set_option linter.unusedSimpArgs false
open Go.RowKit Go.Proofs.YtoijcallajegfaaW.PrintWords Go.Proofs.YtoijcallajegfaaW.PrintLast Go.Proofs.YtoijcallajegfaaW.PrintMore Go.Proofs.Ytoijcallajegfaa.A
theorem tab_snoc (i : Nat) (f : Nat → Nat) : tab i f ++ [f i] = tab (i + 1) f := by unfold tab; rw [List.range_succ]; simp
theorem spec_then {p q : List Nat} (hp : ∀ i, i < p.length → g p i < q.length) (h : p.length ≤ 1000) : Ev (fun k => Z52.f k (I p) (I q)) (I (thn p q)) := by
 unfold Z52.f
 have H : ∀ d i : Nat, i + d = p.length → Ev (fun k => Z52.l0 k (I q) (I (tab i (fun i => g q (g p i)))) (I p) (p.length : Int) (i : Int)) (I (thn p q)) := by
  intro d
  induction d with
  | zero =>
   intro i h
   obtain rfl : i = p.length := by omega
   refine ev_succ ?_
   have h1 : ¬ ((p.length : Int) < (p.length : Int)) := by omega
   simp only [Z52.l0, h1, if_false]
   exact Ev.now _
  | succ d ih =>
   intro i h
   have hi : i < p.length := by omega
   have hg := hp i hi
   refine ev_succ ?_
   have h1 : (i : Int) < (p.length : Int) := by omega
   have h2 := w64s i (by omega)
   have h3 : (I (tab i (fun i => g q (g p i)))).length < 17592186044416 := by rw [I_len, tab_len]; omega
   have h4 : (0 : Int) ≤ (i : Int) := by omega
   have h5 : (0 : Int) ≤ ((g p i : Nat) : Int) := by omega
   have h6 : ((g p i : Nat) : Int) < (q.length : Int) := by omega
   have e := tab_snoc i (fun i => g q (g p i))
   simp only [Z52.l0, h1, h2, h3, h4, h5, h6, rdI, I_len', if_true, I_snoc, e]
   exact ih (i + 1) (by omega)
 have := H p.length 0 (by omega)
 simp only [I_len']
 exact this
end Go.Proofs.Ytoijcallajegfaa.M
end
section
/- Words of letters: the program and the reference act alike. No conditions. -/
namespace Go.Proofs.Ytoijcallajegfaa.M
set_option linter.unusedVariables false
set_option linter.unusedSimpArgs false
open Go.RowKit Go.Proofs.YtoijcallajegfaaW.PrintWords Go.Proofs.YtoijcallajegfaaW.PrintLast Go.Proofs.YtoijcallajegfaaW.PrintMore Go.Proofs.Ytoijcallajegfaa.A
def lt (c : Int) (s : List Nat × List Nat) : List Nat × List Nat := if c = 84 then (s.1, thn (inv s.1) s.2) else if c = 116 then (s.1, thn s.1 s.2) else if c = 83 then (inv s.2, s.1) else (s.2, inv s.1)
theorem sf_lt {s : List Nat × List Nat} (hs : Sf s.1 s.2) (c : Int) : Sf (lt c s).1 (lt c s).2 ∧ (lt c s).1.length = s.1.length := by
 unfold lt
 split
 ·exact ⟨sf_T hs, rfl⟩
 ·split
  ·exact ⟨sf_t hs, rfl⟩
  ·split
   ·exact ⟨sf_S hs, by show (inv s.2).length = _; rw [inv_len, hs.eq]⟩
   ·exact ⟨sf_s hs, hs.eq⟩
def rn (w : ByteArray) (s : List Nat × List Nat) : Nat → List Nat × List Nat
 | 0 => s
 | j + 1 => lt (bt w (j : Int)) (rn w s j)
theorem sf_rn {s : List Nat × List Nat} (hs : Sf s.1 s.2) (w : ByteArray) (j : Nat) : Sf (rn w s j).1 (rn w s j).2 ∧ (rn w s j).1.length = s.1.length := by
 induction j with
 | zero => exact ⟨hs, rfl⟩
 | succ j ih =>
  have := sf_lt ih.1 (bt w (j : Int))
  exact ⟨this.1, this.2.trans ih.2⟩
def letB (c : Int) : Bool := decide (c = 84 ∨ c = 116 ∨ c = 83 ∨ c = 115)
theorem idx_tab : ∀ n : Fin 256, decide (Lib.indexByte [84, 116, 83, 115] n.val.toUInt8 < 0) = !letB (n.val : Int) := by decide +kernel
theorem idx_ev {c : Int} (h0 : 0 ≤ c) (h1 : c ≤ 255) : ∃ i, Z15.f (⟨#[84, 116, 83, 115]⟩ : ByteArray) c = some i ∧ decide (i < 0) = !letB c := by
 obtain ⟨n, rfl⟩ : ∃ n : Nat, c = n := ⟨c.toNat, by omega⟩
 refine ⟨_, rfl, ?_⟩
 exact idx_tab ⟨n, by omega⟩
def wordB (w : ByteArray) : Bool := decide ((∀ j, j < w.size → letB (bt w (j : Int)) = true) ∧ w.size ≤ 40)
theorem impl_wordOk (w : ByteArray) (hw : w.size ≤ 9000000000000000000) : Ev (fun k => Z57.f k w) (wordB w) := by
 unfold Z57.f
 have H : ∀ d j : Nat, j + d = w.size → (∀ i, i < j → letB (bt w (i : Int)) = true) → Ev (fun k => Z57.l0 k w (j : Int)) (wordB w) := by
  intro d
  induction d with
  | zero =>
   intro j hj hl
   obtain rfl : j = w.size := by omega
   refine ev_succ ?_
   have c1 : ¬ ((w.size : Int) < (w.size : Int)) := by omega
   have e : decide ((w.size : Int) ≤ 40) = wordB w := by
    unfold wordB
    rw [decide_eq_decide]
    constructor
    ·intro h
     exact ⟨hl, by omega⟩
    ·intro h
     have := h.2
     omega
   simp only [Z57.l0, c1, if_false, e]
   exact Ev.now _
  | succ d ih =>
   intro j hj hl
   obtain ⟨b0, b1⟩ := bt_range w (j : Int)
   obtain ⟨i, e, hi⟩ := idx_ev b0 b1
   refine ev_succ ?_
   have c1 : (j : Int) < (w.size : Int) := by omega
   have c2 : (0 : Int) ≤ (j : Int) := by omega
   have c3 := w64s j (by omega)
   simp only [Z57.l0, c1, c2, c3, e, if_true, Option.bind_some]
   by_cases hb : letB (bt w (j : Int)) = true
   ·have c4 : ¬ i < 0 := by
     rw [hb] at hi
     exact of_decide_eq_false hi
    simp only [c4, if_false]
    exact ih (j + 1) (by omega) (fun q hq => by
     by_cases e : q = j
     ·rw [e]; exact hb
     ·exact hl q (by omega))
   ·have hb' := Bool.eq_false_iff.mpr hb
    have c4 : i < 0 := by
     rw [hb'] at hi
     exact of_decide_eq_true hi
    have e2 : wordB w = false := by
     unfold wordB
     rw [decide_eq_false_iff_not]
     intro h
     exact hb (h.1 j (by omega))
    simp only [c4, if_true, e2]
    exact Ev.now _
 exact H w.size 0 (Nat.zero_add _) (fun i hi => by omega)
theorem copy_ev (l : List Int) (h : l.length ≤ 1000000) : Z40.f l = some l := by
 unfold Z40.f
 have c1 : ([] : List Int).length + l.length < 17592186044416 := by simp; omega
 simp only [Option.bind_some, c1, if_true, List.nil_append]
theorem impl_letter {s : List Nat × List Nat} (hs : Sf s.1 s.2) (c : Int) (hc : letB c = true) : Ev (fun k => Z10.f k (I s.1) (I s.2) c) (I (lt c s).1, I (lt c s).2) := by
 have hle := hs.le
 have heq := hs.eq
 have h0 := surfB_I.mpr hs
 have k1 := copy_ev (I s.1) (by rw [I_len]; omega)
 have k2 := copy_ev (I s.2) (by rw [I_len]; omega)
 have hc := of_decide_eq_true hc
 unfold Z10.f lt
 by_cases h1 : c = 84
 ·simp only [h1, if_true]
  refine Ev.bind (a := (I s.1, I (thn (inv s.1) s.2), true)) ?_ (Ev.now _)
  unfold Z13.f
  refine Ev.bind (impl_surf _ _) ?_
  simp only [h0, k1, if_true, Option.bind_some]
  exact Ev.bind (impl_inv hs.pr hs.le) (Ev.bind (impl_then (isP_inv hs.pr) hs.pu (by rw [inv_len, hs.eq]) (by rw [inv_len]; exact hs.le)) (Ev.now _))
 ·by_cases h2 : c = 116
  ·have n1 : ¬ ((116 : Int) = 84) := by omega
   simp only [h2, n1, if_true, if_false]
   refine Ev.bind (a := (I s.1, I (thn s.1 s.2), true)) ?_ (Ev.now _)
   unfold Z6.f
   refine Ev.bind (impl_surf _ _) ?_
   simp only [h0, k1, if_true, Option.bind_some]
   exact Ev.bind (impl_then hs.pr hs.pu hs.eq.symm hs.le) (Ev.now _)
  ·by_cases h3 : c = 83
   ·have n1 : ¬ ((83 : Int) = 84) := by omega
    have n2 : ¬ ((83 : Int) = 116) := by omega
    simp only [h3, n1, n2, if_true, if_false]
    refine Ev.bind (a := (I (inv s.2), I s.1, true)) ?_ (Ev.now _)
    unfold Z19.f
    refine Ev.bind (impl_surf _ _) ?_
    simp only [h0, if_true]
    refine Ev.bind (impl_inv hs.pu (by omega)) ?_
    simp only [k1, Option.bind_some]
    exact Ev.now _
   ·have h4 : c = 115 := by omega
    have n1 : ¬ ((115 : Int) = 84) := by omega
    have n2 : ¬ ((115 : Int) = 116) := by omega
    have n3 : ¬ ((115 : Int) = 83) := by omega
    simp only [h4, n1, n2, n3, if_true, if_false]
    refine Ev.bind (a := (I s.2, I (inv s.1), true)) ?_ (Ev.now _)
    unfold Z9.f
    refine Ev.bind (impl_surf _ _) ?_
    simp only [h0, k2, if_true, Option.bind_some]
    exact Ev.bind (impl_inv hs.pr hs.le) (Ev.now _)
def runP (r u : List Int) (w : ByteArray) : List Int × List Int × Bool := if surfB r u = true ∧ wordB w = true then (I (rn w (N r, N u) w.size).1, I (rn w (N r, N u) w.size).2, true) else ([], [], false)
theorem runP_yes {s : List Nat × List Nat} (hs : Sf s.1 s.2) {w : ByteArray} (hw : wordB w = true) : runP (I s.1) (I s.2) w = (I (rn w s w.size).1, I (rn w s w.size).2, true) := by
 unfold runP
 rw [if_pos ⟨surfB_I.mpr hs, hw⟩, N_I, N_I]
theorem impl_run (r u : List Int) (w : ByteArray) (hw : w.size ≤ 9000000000000000000) : Ev (fun k => Z47.f k r u w) (runP r u w) := by
 unfold Z47.f
 refine Ev.bind (impl_surf _ _) ?_
 by_cases h : surfB r u = true
 ·simp only [h, if_true]
  refine Ev.bind (impl_wordOk w hw) ?_
  by_cases h2 : wordB w = true
  ·obtain ⟨r, u, rfl, rfl, hs⟩ := surf_nat h
   rw [runP_yes (s := (r, u)) hs h2, h2]
   have hd := of_decide_eq_true h2
   have hle := hs.le
   have heq := hs.eq
   have k1 := copy_ev (I r) (by rw [I_len]; omega)
   have k2 := copy_ev (I u) (by rw [I_len]; omega)
   refine ev_succ ?_
   simp only [Z47.j0, Z20.f, k1, k2, Option.bind_some, Bool.not_true, Bool.false_eq_true, if_false]
   have H : ∀ d j : Nat, j + d = w.size → Ev (fun k => Z47.l0 k w (j : Int) (I (rn w (r, u) j).1) (I (rn w (r, u) j).2)) (I (rn w (r, u) w.size).1, I (rn w (r, u) w.size).2, true) := by
    intro d
    induction d with
    | zero =>
     intro j hj
     obtain rfl : j = w.size := by omega
     refine ev_succ ?_
     have c1 : ¬ ((w.size : Int) < (w.size : Int)) := by omega
     simp only [Z47.l0, c1, if_false]
     exact Ev.now _
    | succ d ih =>
     intro j hj
     refine ev_succ ?_
     have c1 : (j : Int) < (w.size : Int) := by omega
     have c2 : (0 : Int) ≤ (j : Int) := by omega
     have c3 := w64s j (by omega)
     simp only [Z47.l0, c1, c2, c3, if_true]
     exact Ev.bind (impl_letter (sf_rn (s := (r, u)) hs w j).1 _ (hd.1 j (by omega))) (ih (j + 1) (by omega))
   exact H w.size 0 (Nat.zero_add _)
  ·have h2' := Bool.eq_false_iff.mpr h2
   have e : runP r u w = ([], [], false) := by
    unfold runP
    rw [if_neg (fun h => h2 h.2)]
   rw [e, h2']
   refine ev_succ ?_
   simp only [Z47.j0, Bool.not_false, if_true]
   exact Ev.now _
 ·have e : runP r u w = ([], [], false) := by
   unfold runP
   rw [if_neg (fun k => h k.1)]
  have h' := Bool.eq_false_iff.mpr h
  simp only [h', Bool.false_eq_true, if_false]
  rw [e]
  refine ev_succ ?_
  simp only [Z47.j0, if_true]
  exact Ev.now _
end Go.Proofs.Ytoijcallajegfaa.M
end
section
/- What the four letters keep: symmetries and half turns. No conditions. -/
namespace Go.Proofs.Ytoijcallajegfaa.M
set_option linter.unusedVariables false
set_option linter.unusedSimpArgs false
theorem lt_T (s : List Nat × List Nat) : lt 84 s = (s.1, thn (inv s.1) s.2) := rfl
theorem lt_t (s : List Nat × List Nat) : lt 116 s = (s.1, thn s.1 s.2) := rfl
theorem lt_S (s : List Nat × List Nat) : lt 83 s = (inv s.2, s.1) := rfl
theorem lt_s (s : List Nat × List Nat) : lt 115 s = (s.2, inv s.1) := rfl
theorem lt_four (c : Int) : (∀ s, lt c s = lt 84 s) ∨ (∀ s, lt c s = lt 116 s) ∨ (∀ s, lt c s = lt 83 s) ∨ (∀ s, lt c s = lt 115 s) := by
 by_cases h1 : c = 84
 ·subst h1; exact .inl fun _ => rfl
 ·by_cases h2 : c = 116
  ·subst h2; exact .inr (.inl fun _ => rfl)
  ·by_cases h3 : c = 83
   ·subst h3; exact .inr (.inr (.inl fun _ => rfl))
   ·exact .inr (.inr (.inr fun s => by unfold lt; simp [h1, h2, h3]))
theorem gT {s : List Nat × List Nat} (hs : Sf s.1 s.2) {x : Nat} (hx : x < s.1.length) : g (thn (inv s.1) s.2) x = g s.2 (ix s.1 x) := by rw [g_thn (by rw [inv_len]; exact hx), g_inv hx]
theorem gt {s : List Nat × List Nat} (hs : Sf s.1 s.2) {x : Nat} (hx : x < s.1.length) : g (thn s.1 s.2) x = g s.2 (g s.1 x) := g_thn hx
theorem giu {s : List Nat × List Nat} (hs : Sf s.1 s.2) {x : Nat} (hx : x < s.1.length) : g (inv s.2) x = ix s.2 x := g_inv (by rw [hs.eq]; exact hx)
theorem gir {s : List Nat × List Nat} (hs : Sf s.1 s.2) {x : Nat} (hx : x < s.1.length) : g (inv s.1) x = ix s.1 x := g_inv hx
theorem grx {s : List Nat × List Nat} (hs : Sf s.1 s.2) {x : Nat} (hx : x < s.1.length) : g s.1 (ix s.1 x) = x := g_ix hs.pr hx
theorem gux {s : List Nat × List Nat} (hs : Sf s.1 s.2) {x : Nat} (hx : x < s.1.length) : g s.2 (ix s.2 x) = x := g_ix hs.pu (by rw [hs.eq]; exact hx)
theorem ixr {s : List Nat × List Nat} (hs : Sf s.1 s.2) {x : Nat} (hx : x < s.1.length) : ix s.1 (g s.1 x) = x := ix_g hs.pr hx
theorem ixu {s : List Nat × List Nat} (hs : Sf s.1 s.2) {x : Nat} (hx : x < s.1.length) : ix s.2 (g s.2 x) = x := ix_g hs.pu (by rw [hs.eq]; exact hx)
theorem xT {s : List Nat × List Nat} (hs : Sf s.1 s.2) {x : Nat} (hx : x < s.1.length) : ix (thn (inv s.1) s.2) x = g s.1 (ix s.2 x) := by
 have h := sf_T hs
 have h1 := hs.iu hx
 refine ix_eq h.pu (by rw [h.eq]; exact hs.gr h1) ?_
 rw [gT hs (hs.gr h1), ixr hs h1, gux hs hx]
theorem xt {s : List Nat × List Nat} (hs : Sf s.1 s.2) {x : Nat} (hx : x < s.1.length) : ix (thn s.1 s.2) x = ix s.1 (ix s.2 x) := by
 have h := sf_t hs
 have h1 := hs.iu hx
 refine ix_eq h.pu (by rw [h.eq]; exact hs.ir h1) ?_
 rw [gt hs (hs.ir h1), grx hs h1, gux hs hx]
theorem undo_T {s : List Nat × List Nat} (hs : Sf s.1 s.2) : lt 116 (lt 84 s) = s := by
 rw [lt_T, lt_t]
 refine Prod.ext rfl (ext_g (by show (thn s.1 _).length = _; rw [thn_len, hs.eq]) (fun x hx => ?_))
 have hx : x < s.1.length := by have e : x < (thn s.1 (thn (inv s.1) s.2)).length := hx; rw [thn_len] at e; exact e
 show g (thn s.1 (thn (inv s.1) s.2)) x = _
 rw [g_thn hx, gT hs (hs.gr hx), ixr hs hx]
theorem undo_t {s : List Nat × List Nat} (hs : Sf s.1 s.2) : lt 84 (lt 116 s) = s := by
 rw [lt_T, lt_t]
 refine Prod.ext rfl (ext_g (by show (thn (inv s.1) _).length = _; rw [thn_len, inv_len, hs.eq]) (fun x hx => ?_))
 have hx : x < s.1.length := by have e : x < (thn (inv s.1) (thn s.1 s.2)).length := hx; rw [thn_len, inv_len] at e; exact e
 show g (thn (inv s.1) (thn s.1 s.2)) x = _
 rw [g_thn (by rw [inv_len]; exact hx), gir hs hx, gt hs (hs.ir hx), grx hs hx]
theorem undo_S {s : List Nat × List Nat} (hs : Sf s.1 s.2) : lt 115 (lt 83 s) = s := by
 rw [lt_S, lt_s]
 exact Prod.ext rfl (inv_inv hs.pu)
theorem undo_s {s : List Nat × List Nat} (hs : Sf s.1 s.2) : lt 83 (lt 115 s) = s := by
 rw [lt_S, lt_s]
 exact Prod.ext (inv_inv hs.pr) rfl
theorem undo {s : List Nat × List Nat} (hs : Sf s.1 s.2) (c : Int) : ∃ d, lt d (lt c s) = s := by
 rcases lt_four c with h | h | h | h <;> rw [h]
 ·exact ⟨116, undo_T hs⟩
 ·exact ⟨84, undo_t hs⟩
 ·exact ⟨115, undo_S hs⟩
 ·exact ⟨83, undo_s hs⟩
theorem is_lt {s t : List Nat × List Nat} {f : Nat → Nat} (hs : Sf s.1 s.2) (ht : Sf t.1 t.2) (a : Is s t f) (c : Int) : Is (lt c s) (lt c t) f := by
 have ls := (sf_lt hs c).2
 have lt' := (sf_lt ht c).2
 have up : ∀ {x}, x < s.1.length → f x < t.1.length := fun {x} hx => by rw [a.len]; exact a.lt x hx
 refine ⟨by rw [ls, lt', a.len], fun x hx => ?_, fun x y hx hy => ?_, fun x hx => ?_, fun x hx => ?_⟩
 ·rw [ls] at hx ⊢; exact a.lt x hx
 ·rw [ls] at hx hy; exact a.inj x y hx hy
 ·rw [ls] at hx
  rcases lt_four c with h | h | h | h <;> rw [h s, h t]
  ·exact a.r x hx
  ·exact a.r x hx
  ·show f (g (inv s.2) x) = g (inv t.2) (f x)
   rw [giu hs hx, giu ht (up hx)]
   exact a.iu hs ht hx
  ·exact a.u x hx
 ·rw [ls] at hx
  rcases lt_four c with h | h | h | h <;> rw [h s, h t]
  ·show f (g (thn (inv s.1) s.2) x) = g (thn (inv t.1) t.2) (f x)
   rw [gT hs hx, gT ht (up hx), a.u _ (hs.ir hx), a.ir hs ht hx]
  ·show f (g (thn s.1 s.2) x) = g (thn t.1 t.2) (f x)
   rw [gt hs hx, gt ht (up hx), a.u _ (hs.gr hx), a.r x hx]
  ·exact a.r x hx
  ·show f (g (inv s.1) x) = g (inv t.1) (f x)
   rw [gir hs hx, gir ht (up hx)]
   exact a.ir hs ht hx
theorem is_lt_iff {s t : List Nat × List Nat} {f : Nat → Nat} (hs : Sf s.1 s.2) (ht : Sf t.1 t.2) (c : Int) : Is (lt c s) (lt c t) f ↔ Is s t f := by
 refine ⟨fun a => ?_, fun a => is_lt hs ht a c⟩
 have b : ∀ d, Is (lt d (lt c s)) (lt d (lt c t)) f := is_lt (sf_lt hs c).1 (sf_lt ht c).1 a
 rcases lt_four c with h | h | h | h
 ·have := b 116; rw [h s, h t, undo_T hs, undo_T ht] at this; exact this
 ·have := b 84; rw [h s, h t, undo_t hs, undo_t ht] at this; exact this
 ·have := b 115; rw [h s, h t, undo_S hs, undo_S ht] at this; exact this
 ·have := b 83; rw [h s, h t, undo_s hs, undo_s ht] at this; exact this
theorem filt_le {n : Nat} {p q : Nat → Bool} {h : Nat → Nat} (h1 : ∀ x, x < n → p x = true → h x < n ∧ q (h x) = true) (h2 : ∀ x y, x < n → y < n → h x = h y → x = y) : ((List.range n).filter p).length ≤ ((List.range n).filter q).length := by
 have hn : (((List.range n).filter p).map h).Nodup := by
  have nd : ((List.range n).filter p).Nodup := List.nodup_range.filter _
  have hlt : ∀ x ∈ (List.range n).filter p, x < n := fun x hx => List.mem_range.mp (List.mem_filter.mp hx).1
  refine List.pairwise_map.mpr (List.Pairwise.imp_of_mem ?_ nd)
  intro a b ha hb hab e
  exact hab (h2 a b (hlt a ha) (hlt b hb) e)
 have := nodup_sub_len5 _ ((List.range n).filter q) hn (fun x hx => by
  obtain ⟨y, hy, rfl⟩ := List.mem_map.mp hx
  obtain ⟨y1, y2⟩ := List.mem_filter.mp hy
  have := h1 y (List.mem_range.mp y1) y2
  exact List.mem_filter.mpr ⟨List.mem_range.mpr this.1, this.2⟩)
 rwa [List.length_map] at this
open Classical in
noncomputable def ledN (s t : List Nat × List Nat) (b : Nat) : Nat := ((List.range s.1.length).filter (fun i => decide (∃ f, Is s t f ∧ f b = i))).length
open Classical in
theorem ledN_step {s t : List Nat × List Nat} (hs : Sf s.1 s.2) (ht : Sf t.1 t.2) (hl : t.1.length = s.1.length) {b : Nat} (hb : b < s.1.length) : ledN s t b ≤ ledN s t (g s.1 b) ∧ ledN s t b ≤ ledN s t (g s.2 b) := by
 constructor
 ·refine filt_le (h := g t.1) (fun x hx hp => ?_) (fun x y hx hy e => g_inj ht.pr (by rw [hl]; exact hx) (by rw [hl]; exact hy) e)
  obtain ⟨f, a, rfl⟩ := of_decide_eq_true hp
  exact ⟨by have := ht.gr (by rw [hl]; exact hx : f b < t.1.length); rw [hl] at this; exact this, decide_eq_true ⟨f, a, a.r b hb⟩⟩
 ·refine filt_le (h := g t.2) (fun x hx hp => ?_) (fun x y hx hy e => g_inj ht.pu (by rw [ht.eq, hl]; exact hx) (by rw [ht.eq, hl]; exact hy) e)
  obtain ⟨f, a, rfl⟩ := of_decide_eq_true hp
  exact ⟨by have := ht.gu (by rw [hl]; exact hx : f b < t.1.length); rw [hl] at this; exact this, decide_eq_true ⟨f, a, a.u b hb⟩⟩
theorem ledN_any {s t : List Nat × List Nat} (hs : Sf s.1 s.2) (ht : Sf t.1 t.2) (hl : t.1.length = s.1.length) {b c : Nat} (hb : b < s.1.length) (hc : c < s.1.length) : ledN s t b = ledN s t c := by
 have key : ∀ b, b < s.1.length → ∀ c, c < s.1.length → ledN s t b ≤ ledN s t c := fun b hb =>
  hs.all_of (S := fun c => ledN s t b ≤ ledN s t c) hb (Nat.le_refl _) (fun x hx h => Nat.le_trans h (ledN_step hs ht hl hx).1) (fun x hx h => Nat.le_trans h (ledN_step hs ht hl hx).2)
 exact Nat.le_antisymm (key b hb c hc) (key c hc b hb)
theorem ledN_lt {s t : List Nat × List Nat} (hs : Sf s.1 s.2) (ht : Sf t.1 t.2) (c : Int) (b : Nat) : ledN (lt c s) (lt c t) b = ledN s t b := by
 unfold ledN
 rw [(sf_lt hs c).2]
 congr 2
 funext i
 congr 1
 exact propext ⟨fun ⟨f, h, e⟩ => ⟨f, (is_lt_iff hs ht c).1 h, e⟩, fun ⟨f, h, e⟩ => ⟨f, (is_lt_iff hs ht c).2 h, e⟩⟩
def symN (s : List Nat × List Nat) : Nat := ((List.range s.1.length).filter (fun i => decide (rS s.1 s.2 i = canS s.1 s.2))).length
theorem symN_eq {s : List Nat × List Nat} (hs : Sf s.1 s.2) : symN s = ledN s s 0 := by
 obtain ⟨i, hi, e⟩ := canS_at hs
 rw [ledN_any hs hs rfl hs.pos hi]
 unfold symN ledN
 congr 1
 refine List.filter_congr (fun j hj => ?_)
 have hj := List.mem_range.mp hj
 rw [e, decide_eq_decide]
 exact eq_comm.trans (rS_same hs hi hj)
theorem symN_lt {s : List Nat × List Nat} (hs : Sf s.1 s.2) (c : Int) : symN (lt c s) = symN s := by
 rw [symN_eq hs, symN_eq (sf_lt hs c).1, ledN_lt hs hs]
def neg (s : List Nat × List Nat) : List Nat × List Nat := (inv s.1, inv s.2)
theorem neg_SS {s : List Nat × List Nat} : lt 83 (lt 83 s) = neg s := rfl
theorem sf_neg {s : List Nat × List Nat} (hs : Sf s.1 s.2) : Sf (neg s).1 (neg s).2 ∧ (neg s).1.length = s.1.length := by
 rw [← neg_SS]
 exact ⟨(sf_lt (sf_lt hs 83).1 83).1, by rw [(sf_lt (sf_lt hs 83).1 83).2, (sf_lt hs 83).2]⟩
theorem negr {s : List Nat × List Nat} {f : Nat → Nat} (hs : Sf s.1 s.2) (a : Is s (neg s) f) {x : Nat} (hx : x < s.1.length) : f (g s.1 x) = ix s.1 (f x) := by rw [a.r x hx]; exact gir hs (a.lt x hx)
theorem negu {s : List Nat × List Nat} {f : Nat → Nat} (hs : Sf s.1 s.2) (a : Is s (neg s) f) {x : Nat} (hx : x < s.1.length) : f (g s.2 x) = ix s.2 (f x) := by rw [a.u x hx]; exact giu hs (a.lt x hx)
theorem negr' {s : List Nat × List Nat} {f : Nat → Nat} (hs : Sf s.1 s.2) (a : Is s (neg s) f) {x : Nat} (hx : x < s.1.length) : f (ix s.1 x) = g s.1 (f x) := by
 have h := negr hs a (hs.ir hx)
 rw [grx hs hx] at h
 rw [h, grx hs (a.lt _ (hs.ir hx))]
theorem negu' {s : List Nat × List Nat} {f : Nat → Nat} (hs : Sf s.1 s.2) (a : Is s (neg s) f) {x : Nat} (hx : x < s.1.length) : f (ix s.2 x) = g s.2 (f x) := by
 have h := negu hs a (hs.iu hx)
 rw [gux hs hx] at h
 rw [h, gux hs (a.lt _ (hs.iu hx))]
theorem neg_T {s : List Nat × List Nat} {f : Nat → Nat} (hs : Sf s.1 s.2) (a : Is s (neg s) f) : Is (lt 84 s) (neg (lt 84 s)) (fun x => g s.1 (f x)) := by
 have hn := sf_neg (sf_lt hs 84).1
 refine ⟨hn.2, fun x hx => hs.gr (a.lt x hx), fun x y hx hy e => a.inj x y hx hy (g_inj hs.pr (a.lt x hx) (a.lt y hy) e), fun x hx => ?_, fun x hx => ?_⟩
 ·have hx : x < s.1.length := hx
  have h1 := a.lt x hx
  show g s.1 (f (g s.1 x)) = g (inv s.1) (g s.1 (f x))
  rw [negr hs a hx, grx hs h1, gir hs (hs.gr h1), ixr hs h1]
 ·have hx : x < s.1.length := hx
  have h1 := a.lt x hx
  show g s.1 (f (g (thn (inv s.1) s.2) x)) = g (inv (thn (inv s.1) s.2)) (g s.1 (f x))
  rw [gT hs hx, negu hs a (hs.ir hx), negr' hs a hx, g_inv (by rw [thn_len, inv_len]; exact hs.gr h1), xT hs (hs.gr h1)]
theorem neg_t {s : List Nat × List Nat} {f : Nat → Nat} (hs : Sf s.1 s.2) (a : Is s (neg s) f) : Is (lt 116 s) (neg (lt 116 s)) (fun x => ix s.1 (f x)) := by
 have hn := sf_neg (sf_lt hs 116).1
 refine ⟨hn.2, fun x hx => hs.ir (a.lt x hx), fun x y hx hy e => a.inj x y hx hy (by rw [← grx hs (a.lt x hx), ← grx hs (a.lt y hy), e]), fun x hx => ?_, fun x hx => ?_⟩
 ·have hx : x < s.1.length := hx
  have h1 := a.lt x hx
  show ix s.1 (f (g s.1 x)) = g (inv s.1) (ix s.1 (f x))
  rw [negr hs a hx, gir hs (hs.ir h1)]
 ·have hx : x < s.1.length := hx
  have h1 := a.lt x hx
  show ix s.1 (f (g (thn s.1 s.2) x)) = g (inv (thn s.1 s.2)) (ix s.1 (f x))
  rw [gt hs hx, negu hs a (hs.gr hx), negr hs a hx, g_inv (by rw [thn_len]; exact hs.ir h1), xt hs (hs.ir h1)]
theorem neg_S {s : List Nat × List Nat} {f : Nat → Nat} (hs : Sf s.1 s.2) (a : Is s (neg s) f) : Is (lt 83 s) (neg (lt 83 s)) f := by
 have hn := sf_neg (sf_lt hs 83).1
 have hl : (lt 83 s).1.length = s.1.length := (sf_lt hs 83).2
 refine ⟨hn.2, fun x hx => ?_, fun x y hx hy e => ?_, fun x hx => ?_, fun x hx => ?_⟩
 ·rw [hl] at hx ⊢; exact a.lt x hx
 ·rw [hl] at hx hy; exact a.inj x y hx hy e
 ·rw [hl] at hx
  show f (g (inv s.2) x) = g (inv (inv s.2)) (f x)
  rw [giu hs hx, inv_inv hs.pu, negu' hs a hx]
 ·rw [hl] at hx
  show f (g s.1 x) = g (inv s.1) (f x)
  exact a.r x hx
theorem neg_s {s : List Nat × List Nat} {f : Nat → Nat} (hs : Sf s.1 s.2) (a : Is s (neg s) f) : Is (lt 115 s) (neg (lt 115 s)) f := by
 have hn := sf_neg (sf_lt hs 115).1
 have hl : (lt 115 s).1.length = s.1.length := (sf_lt hs 115).2
 refine ⟨hn.2, fun x hx => ?_, fun x y hx hy e => ?_, fun x hx => ?_, fun x hx => ?_⟩
 ·rw [hl] at hx ⊢; exact a.lt x hx
 ·rw [hl] at hx hy; exact a.inj x y hx hy e
 ·rw [hl] at hx
  show f (g s.2 x) = g (inv s.2) (f x)
  exact a.u x hx
 ·rw [hl] at hx
  show f (g (inv s.1) x) = g (inv (inv s.1)) (f x)
  rw [gir hs hx, inv_inv hs.pr, negr' hs a hx]
open Classical in
theorem turnN_le {s : List Nat × List Nat} (hs : Sf s.1 s.2) (c : Int) : ledN s (neg s) 0 ≤ ledN (lt c s) (neg (lt c s)) 0 := by
 have hl := (sf_lt hs c).2
 unfold ledN
 rw [hl]
 rcases lt_four c with h | h | h | h <;> rw [h]
 ·refine filt_le (h := g s.1) (fun x hx hp => ?_) (fun x y hx hy e => g_inj hs.pr hx hy e)
  obtain ⟨f, a, rfl⟩ := of_decide_eq_true hp
  exact ⟨hs.gr hx, decide_eq_true ⟨_, neg_T hs a, rfl⟩⟩
 ·refine filt_le (h := ix s.1) (fun x hx hp => ?_) (fun x y hx hy e => by rw [← grx hs hx, ← grx hs hy, e])
  obtain ⟨f, a, rfl⟩ := of_decide_eq_true hp
  exact ⟨hs.ir hx, decide_eq_true ⟨_, neg_t hs a, rfl⟩⟩
 ·refine filt_le (h := fun x => x) (fun x hx hp => ?_) (fun x y hx hy e => e)
  obtain ⟨f, a, rfl⟩ := of_decide_eq_true hp
  exact ⟨hx, decide_eq_true ⟨_, neg_S hs a, rfl⟩⟩
 ·refine filt_le (h := fun x => x) (fun x hx hp => ?_) (fun x y hx hy e => e)
  obtain ⟨f, a, rfl⟩ := of_decide_eq_true hp
  exact ⟨hx, decide_eq_true ⟨_, neg_s hs a, rfl⟩⟩
theorem turnN_lt {s : List Nat × List Nat} (hs : Sf s.1 s.2) (c : Int) : ledN (lt c s) (neg (lt c s)) 0 = ledN s (neg s) 0 := by
 obtain ⟨d, hd⟩ := undo hs c
 have h1 := turnN_le hs c
 have h2 := turnN_le (sf_lt hs c).1 d
 rw [hd] at h2
 exact Nat.le_antisymm h2 h1
theorem turnN_pos {s : List Nat × List Nat} (hs : Sf s.1 s.2) : canS (neg s).1 (neg s).2 = canS s.1 s.2 ↔ 0 < ledN s (neg s) 0 := by
 rw [eq_comm, canS_iff hs (sf_neg hs).1]
 constructor
 ·rintro ⟨f, a⟩
  refine List.length_pos_of_mem (a := f 0) (List.mem_filter.mpr ⟨List.mem_range.mpr (a.lt 0 hs.pos), ?_⟩)
  exact @decide_eq_true _ (Classical.propDecidable _) ⟨f, a, rfl⟩
 ·intro h
  obtain ⟨x, hx⟩ := List.exists_mem_of_length_pos h
  obtain ⟨f, a, _⟩ := @of_decide_eq_true _ (Classical.propDecidable _) (List.mem_filter.mp hx).2
  exact ⟨f, a⟩
end Go.Proofs.Ytoijcallajegfaa.M
end
section
/- Plain mathematics: sums and periods. No conditions. -/
namespace Go.Proofs.Ytoijcallajegfaa.M
set_option linter.unusedVariables false
set_option linter.unusedSimpArgs false
open Go.RowKit Go.Proofs.YtoijcallajegfaaW.PrintWords Go.Proofs.YtoijcallajegfaaW.PrintLast Go.Proofs.YtoijcallajegfaaW.PrintMore
def sm (f : Nat → Nat) : Nat → Nat
 | 0 => 0
 | n + 1 => sm f n + f n
theorem sm_congr {f h : Nat → Nat} {n : Nat} (e : ∀ i, i < n → f i = h i) : sm f n = sm h n := by
 induction n with
 | zero => rfl
 | succ n ih => rw [sm, sm, ih (fun i hi => e i (by omega)), e n (by omega)]
theorem sm_add {f h : Nat → Nat} (n : Nat) : sm (fun i => f i + h i) n = sm f n + sm h n := by
 induction n with
 | zero => rfl
 | succ n ih => rw [sm, sm, sm, ih]; omega
theorem sm_zero (n : Nat) : sm (fun _ => 0) n = 0 := by
 induction n with
 | zero => rfl
 | succ n ih => rw [sm, ih]
theorem sm_single {a c : Nat} : ∀ n, sm (fun q => if a = q then c else 0) n = if a < n then c else 0 := by
 intro n
 induction n with
 | zero => rfl
 | succ n ih =>
  rw [sm, ih]
  by_cases h : a = n
  ·subst h
   simp
  ·by_cases h2 : a < n
   ·simp [h, h2, Nat.lt_succ_of_lt h2]
   ·have h3 : ¬ a < n + 1 := by omega
    simp [h, h2, h3]
theorem per_eq_of {p q : List Nat} (hp : IsP p) (hq : IsP q) {s t : Nat} (hs : s < p.length) (ht : t < q.length) (h : ∀ m, itr p m s = s ↔ itr q m t = t) : per p s = per q t := by
 obtain ⟨a1, _, a3⟩ := per_spec hp hs
 obtain ⟨b1, _, b3⟩ := per_spec hq ht
 have a0 := per_pos p s
 have b0 := per_pos q t
 rcases Nat.lt_trichotomy (per p s) (per q t) with e | e | e
 ·exact absurd ((h _).mp a1) (b3 _ a0 e)
 ·exact e
 ·exact absurd ((h _).mpr b1) (a3 _ b0 e)
theorem itr_comm (p : List Nat) (a b s : Nat) : itr p a (itr p b s) = itr p b (itr p a s) := by
 rw [← itr_add, ← itr_add, Nat.add_comm]
theorem itr_inj {p : List Nat} (hp : IsP p) {k s t : Nat} (hs : s < p.length) (ht : t < p.length) (h : itr p k s = itr p k t) : s = t := by
 induction k with
 | zero => exact h
 | succ k ih => exact ih (g_inj hp (itr_lt hp k hs) (itr_lt hp k ht) h)
theorem per_orb {p : List Nat} (hp : IsP p) {s x : Nat} (hs : s < p.length) (hx : x ∈ orb p s) : per p x = per p s := by
 obtain ⟨k, rfl⟩ := (mem_orb hp hs).mp hx
 refine per_eq_of hp hp (itr_lt hp k hs) hs (fun m => ?_)
 rw [itr_comm]
 constructor
 ·intro h
  exact itr_inj hp (itr_lt hp m hs) hs h
 ·intro h
  rw [h]
theorem orb_length (p : List Nat) (s : Nat) : (orb p s).length = per p s := by simp [orb, orbTo]
end Go.Proofs.Ytoijcallajegfaa.M
end
